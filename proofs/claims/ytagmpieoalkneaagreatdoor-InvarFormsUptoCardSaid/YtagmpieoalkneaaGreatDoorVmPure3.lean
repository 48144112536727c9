/- VmPure2, VmPure3 in one text. -/
import Derived.Test.YtagmpieoalkneaaGreatDoorVmPure
import Derived.Laws.Strings
import Derived.Laws.StructEq
set_option linter.all false
/- Each pure operation,second part. -/
namespace Go.Vm
open Go.RowKit
variable {P:Program}

theorem intBin_sim {op:BinOp} {k:IntKind} {a b:Int} {d:D} (h:intBinD op k a b=some d) (hs:op≠.shl∧op≠.shr) (t:TypeId) (gh:Gh) (w:World) :
  ∃ v,(binOp op t (.int k a) (.int k b)).run P w=.ok v w∧Rep gh w d v:=by
 obtain ⟨h1,h2⟩:=hs
 cases op<;>simp only [intBinD,reduceCtorEq,Option.some.injEq,ne_eq] at h h1 h2
 case quo =>
  split at h
  ·cases h
  ·rename_i hb;cases h;simp [binOp,Op.intDiv,hb,Rep]
 case rem =>
  split at h
  ·cases h
  ·rename_i hb;cases h;simp [binOp,Op.intDiv,hb,Rep]
 all_goals (subst h;simp [binOp,Op.intArith,Op.intBits,Op.intCmp,Rep])
theorem shift_sim {op:BinOp} {k:IntKind} {a b:Int} {d:D} (h:shiftD op k a b=some d) (t:TypeId) (gh:Gh) (w:World) :
  ∃ v,(∀ k',(binOp op t (.int k a) (.int k' b)).run P w=.ok v w)∧Rep gh w d v:=by
 simp only [shiftD] at h
 split at h
 ·cases h
 ·rename_i hb
  cases op<;>simp only [reduceCtorEq,Option.some.injEq] at h<;>subst h<;>simp [binOp,Op.shift,hb,Rep]
theorem toList_mk (s:List UInt8):(ByteArray.mk s.toArray).toList=s:=by
 simp [ByteArray.toList_eq]
theorem strBin_sim {op:BinOp} {a b:List UInt8} {d:D} (h:strBinD op a b=some d) (hs:op≠.shl∧op≠.shr) (t:TypeId) (gh:Gh) (w:World) :
  ∃ v,(binOp op t (.string ⟨a.toArray⟩) (.string ⟨b.toArray⟩)).run P w=.ok v w∧Rep gh w d v:=by
 obtain ⟨h1,h2⟩:=hs
 cases op<;>simp only [strBinD,reduceCtorEq,Option.some.injEq,ne_eq] at h h1 h2
 case add =>
  split at h
  ·rename_i hle
   cases h
   refine ⟨_,by simp only [binOp];exact run_string_add_sum _ _ _ (by simpa [ByteArray.size] using hle), ?_⟩
   simp only [Rep]
   exact ⟨_,rfl,by rw [ByteArray.data_append];simp⟩
  ·cases h
 all_goals (subst h;simp [binOp,Op.stringOp,Rep])
theorem equalIn_bool {t:TypeId} (hu:P.underlying t=some .bool) (n:Nat) (a b:Bool) (w:World):(Op.equalIn (n+1) t (.bool a) (.bool b)).run P w=.ok (a == b) w:=by
 simp [Op.equalIn,run_underlying hu]
theorem equalIn_nilIface {t:TypeId} {ms} (hu:P.underlying t=some (.interface ms)) (n:Nat) (w:World):(Op.equalIn (n+1) t .nilIface .nilIface).run P w=.ok true w:=by
 simp [Op.equalIn,run_underlying hu]
theorem equalIn_iface_l {t:TypeId} {ms} (hu:P.underlying t=some (.interface ms)) (n:Nat) (k:TypeId) (v:Value) (w:World):(Op.equalIn (n+1) t .nilIface (.iface k v)).run P w=.ok false w:=by
 simp [Op.equalIn,run_underlying hu]
theorem equalIn_iface_r {t:TypeId} {ms} (hu:P.underlying t=some (.interface ms)) (n:Nat) (k:TypeId) (v:Value) (w:World):(Op.equalIn (n+1) t (.iface k v) .nilIface).run P w=.ok false w:=by
 simp [Op.equalIn,run_underlying hu]
theorem equalIn_ptr_l {t e:TypeId} (hu:P.underlying t=some (.pointer e)) (n:Nat) (a:Option Addr) (w:World):(Op.equalIn (n+1) t (.pointer none) (.pointer a)).run P w=.ok a.isNone w:=by
 simp [Op.equalIn,run_underlying hu]
theorem equalIn_ptr_r {t e:TypeId} (hu:P.underlying t=some (.pointer e)) (n:Nat) (a:Addr) (w:World):(Op.equalIn (n+1) t (.pointer (some a)) (.pointer none)).run P w=.ok false w:=by
 simp [Op.equalIn,run_underlying hu]
theorem equalIn_slice_r {t e:TypeId} (hu:P.underlying t=some (.slice e)) (n:Nat) (a:Addr) (l c:Nat) (w:World):(Op.equalIn (n+1) t (.slice (some a) l c) (.slice none 0 0)).run P w=.ok false w:=by
 simp [Op.equalIn,run_underlying hu]
def notNumStr:Value→Bool
 | .int ..|.float ..|.complex ..|.string _=>false
 | _=>true
theorem binOp_eq {t:TypeId} {u v:Value} {r:Bool} {w:World} (neq:Bool) (hn:notNumStr u=true) (h:(Op.equalIn (9999+1) t u v).run P w=.ok r w) :
  (binOp (if neq then .neq else .eql) t u v).run P w=.ok (.bool (if neq then !r else r)) w:=by
 have h':(Op.equal t u v).run P w=.ok r w:=h
 cases neq
 ·have e:binOp .eql t u v=(do pure (.bool (← Op.equal t u v))):=by cases u<;>simp [notNumStr] at hn<;>rfl
  simp only [Bool.false_eq_true,if_false,e,Sem.run_bind,h',Result.andThen_ok]
  rfl
 ·have e:binOp .neq t u v=(do pure (.bool (!(← Op.equal t u v)))):=by cases u<;>simp [notNumStr] at hn<;>rfl
  simp only [if_true,e,Sem.run_bind,h',Result.andThen_ok]
  rfl
theorem const_nilSlice {c:Value} {es:Nat} (h:ofConst c=.sl .full es []):c=.slice none 0 0:=by
 unfold ofConst at h
 split at h
 ·cases h
 ·split at h<;>cases h
 ·unfold ofCell at h
  split at h<;>first|rfl|cases h|skip
  split at h<;>cases h
theorem const_noElems {c:Value} {o:Own} {es:Nat} {d:D} {ds:List D} (h:ofConst c=.sl o es (d::ds)):False:=by
 unfold ofConst at h
 split at h
 ·cases h
 ·split at h<;>cases h
 ·unfold ofCell at h
  split at h<;>first|cases h|skip
  split at h<;>cases h
theorem rep_slCons {gh:Gh} {w:World} {o:Own} {es:Nat} {d:D} {ds:List D} {u:Value} (h:Rep gh w (.sl o es (d::ds)) u):∃ a l c,u=.slice (some a) l c:=by
 unfold Rep at h
 obtain ⟨a,cap,rfl,_,_,h⟩:=h
 obtain ⟨b,off,rfl,_⟩:=h (by simp)
 exact ⟨_,_,_,rfl⟩
theorem akCode_lt (a:AK):akCode a<4:=by cases a<;>simp [akCode]
theorem cellEq_sim {gh:Gh} {w:World} {a:AK} {t:TypeId} (ht:atomK P t=some a) {x y:D} {r:Bool} (h:cellEq (akCode a) x y=some r) {u v:Value} (hx:Rep gh w x u) (hy:Rep gh w y v) (d:Nat):(Op.equalIn (d+1) t u v).run P w=.ok r w:=by
 unfold atomK at ht
 split at ht
 ·rename_i k0 hu
  cases ht
  simp only [akCode,cellEq] at h
  split at h<;>(try (rename_i hq;cases hq;done))<;>(try (cases h;done))
  ·split at h
   ·rename_i hk
    subst hk
    cases h
    simp only [Rep] at hx hy
    subst hx hy
    exact run_equalIn_int w d t _ k0 _ _ hu
   ·cases h
  all_goals simp at *
 ·rename_i hu
  cases ht
  simp only [akCode,cellEq] at h
  split at h<;>(try (rename_i hq;cases hq;done))<;>(try (cases h;done))
  ·cases h
   have hx':=str?_rep (s:=_) (by rfl) hx
   have hy':=str?_rep (s:=_) (by rfl) hy
   subst hx' hy'
   rw [run_equalIn_string w d t _ _ hu,toList_mk,toList_mk]
 ·rename_i hu
  cases ht
  simp only [akCode,cellEq] at h
  split at h<;>(try (rename_i hq;cases hq;done))<;>(try (cases h;done))
  ·cases h
   simp only [Rep] at hx hy
   subst hx hy
   exact equalIn_bool hu d _ _ w
 ·cases ht
theorem atomK_agg {t:TypeId} {a:AK} (h:atomK P t=some a):tyAgg P t=some false:=by
 unfold atomK at h
 unfold tyAgg
 split at h<;>first|(cases h;done)|(rename_i hu;rw [hu];rfl)
theorem eqFields_sim {gh:Gh} {w:World} {X Y:List D} {us vs:Array Value} (hX:RepL gh w X us.toList) (hY:RepL gh w Y vs.toList) (d:Nat):∀ (fs:List Field) (i:Nat) (r:Bool) (as:List AK),
  flatKs P i fs=some as→i≤X.length→i≤Y.length→eqCells (aksCode as) (X.drop i) (Y.drop i)=some r→(Op.eqFields (d+1) us vs fs).run P w=.ok r w
 | [],i,r,as,hf,h1,h2,h=>by
  simp only [flatKs,Option.some.injEq] at hf
  subst hf
  cases hx:X.drop i with
  | nil =>
   cases hy:Y.drop i with
   | nil=>rw [hx,hy] at h;simp [eqCells,aksCode] at h;subst h;simp [Op.eqFields]
   | cons b r=>rw [hx,hy] at h;simp [eqCells] at h
  | cons a t =>
   cases hy:Y.drop i with
   | nil=>rw [hx,hy] at h;simp [eqCells] at h
   | cons b r =>
    rw [hx,hy] at h
    simp only [eqCells,aksCode,Option.bind_eq_some_iff,Option.map_eq_some_iff] at h
    obtain ⟨z,hz,t',ht',_⟩:=h
    exfalso
    have:∀ (xs ys:List D) (r:Bool),¬ eqCells 0 xs ys=some r:=by
     intro xs
     induction xs with
     | nil=>intro ys r h;cases ys<;>simp [eqCells] at h
     | cons x xs ih =>
      intro ys r h
      cases ys with
      | nil=>simp [eqCells] at h
      | cons y ys =>
       simp only [eqCells,Option.bind_eq_some_iff,Option.map_eq_some_iff] at h
       obtain ⟨_,_,t,h,_⟩:=h
       exact ih _ _ h
    exact this _ _ _ ht'
 | f::fs,i,r,as,hf,h1,h2,h=>by
  simp only [flatKs,Bool.and_eq_true,bne_iff_ne,ne_eq,beq_iff_eq] at hf
  split at hf
  ·rename_i hc
   obtain ⟨⟨hname,hoff⟩,hsz⟩:=hc
   simp only [Option.bind_eq_some_iff,Option.map_eq_some_iff] at hf
   obtain ⟨a,ha,as',hrest,rfl⟩:=hf
   cases hx:X.drop i with
   | nil =>
    exfalso
    rw [hx] at h
    cases hy:Y.drop i with
    | nil =>
     rw [hy] at h
     have hp:∀ l:List AK,0<aksCode l:=by
      intro l
      induction l with
      | nil=>decide
      | cons x l ih=>simp only [aksCode];omega
     have:=hp as'
     have h3:¬ aksCode (a::as')=1:=by simp only [aksCode];omega
     rw [eqCells,if_neg h3] at h
     cases h
    | cons b r=>rw [hy] at h;simp [eqCells] at h
   | cons x xs =>
    cases hy:Y.drop i with
    | nil=>rw [hx,hy] at h;simp [eqCells] at h
    | cons y ys =>
     rw [hx,hy] at h
     simp only [eqCells,aksCode,Option.bind_eq_some_iff,Option.map_eq_some_iff] at h
     have h3:=akCode_lt a
     have e1:(akCode a+4 * aksCode as') % 4=akCode a:=by omega
     have e2:(akCode a+4 * aksCode as') / 4=aksCode as':=by omega
     rw [e1,e2] at h
     obtain ⟨b,hb,t,ht,rfl⟩:=h
     have hl1:i<X.length:=by rcases Nat.lt_or_ge i X.length with h|h;exact h;rw [List.drop_eq_nil_of_le h] at hx;cases hx
     have hl2:i<Y.length:=by rcases Nat.lt_or_ge i Y.length with h|h;exact h;rw [List.drop_eq_nil_of_le h] at hy;cases hy
     have ex:=List.drop_eq_getElem_cons hl1
     have ey:=List.drop_eq_getElem_cons hl2
     rw [hx] at ex
     rw [hy] at ey
     obtain ⟨ex1,ex2⟩:=List.cons.inj ex
     obtain ⟨ey1,ey2⟩:=List.cons.inj ey
     have hagg:=atomK_agg ha
     obtain ⟨u,hu1,hu2⟩:=run_part (P:=P) (off:=i) hagg hsz (show ofCells false X i 1=some x by simp [ofCells,List.getElem?_eq_getElem hl1,ex1]) hX
     obtain ⟨v,hv1,hv2⟩:=run_part (P:=P) (off:=i) hagg hsz (show ofCells false Y i 1=some y by simp [ofCells,List.getElem?_eq_getElem hl2,ey1]) hY
     rw [ex2,ey2] at ht
     have ih:=eqFields_sim hX hY d fs (i+1) t as' hrest (by omega) (by omega) ht
     rw [Op.eqFields,if_pos hname,hoff]
     simp only [Sem.run_bind,hu1,hv1,Result.andThen_ok,cellEq_sim ha hb hu2 hv2 d]
     cases b
     ·simp
     ·simpa using ih
  ·cases hf
theorem eq_sim {neq lit:Bool} {t:TypeId} {x y d:D} (h:eqOf (eqKind P t) neq lit x y=some d) {a b:Operand} (hl:lit=(isLit a || isLit b)) {gh:Gh} {w:World} {u v:Value}
  (ha:∀ c,a=.const c→u=c∧x=ofConst c) (hb:∀ c,b=.const c→v=c∧y=ofConst c)
  (hx:Rep gh w x u) (hy:Rep gh w y v) :
  ∃ z,(do eqGuard (if neq then .neq else .eql) t a b u v;binOp (if neq then .neq else .eql) t u v:Sem Value).run P w=.ok z w∧Rep gh w d z:=by
 have fin:∀ {u v:Value} {r:Bool},notNumStr u=true→(eqGuard (if neq then .neq else .eql) t a b u v).run P w=.ok () w→(Op.equalIn (9999+1) t u v).run P w=.ok r w →
   ∃ z,(do eqGuard (if neq then .neq else .eql) t a b u v;binOp (if neq then .neq else .eql) t u v:Sem Value).run P w=.ok z w∧Rep gh w (negIf neq r) z:=by
  intro u v r hn hg he
  refine ⟨_,by simp only [Sem.run_bind,hg,Result.andThen_ok];exact binOp_eq neq hn he,by simp [negIf,Rep]⟩
 have g0:∀ {u v:Value},(match u,v with|.nilIface,.nilIface=>false|.agg _,.agg _=>false|_,_=>true)=true→(eqGuard (if neq then .neq else .eql) t a b u v).run P w=.ok () w:=by
  intro u v hq
  unfold eqGuard
  cases neq<;>cases u<;>cases v<;>simp at hq<;>simp
 unfold eqKind at h
 split at h
 ·rename_i hu
  simp only [eqOf,eqBool,Option.bind_eq_some_iff,Option.some.injEq] at h
  obtain ⟨p,hp,q,hq,rfl⟩:=h
  have hp':=bool?_rep hp hx
  have hq':=bool?_rep hq hy
  subst hp' hq'
  exact fin rfl (g0 rfl) (equalIn_bool hu _ p q w)
 ·rename_i ms hu
  simp only [eqOf,eqIface] at h
  split at h
  ·split at h
   ·rename_i hlt
    cases h
    simp only [Rep] at hx hy
    obtain ⟨rfl,_⟩:=hx
    obtain ⟨rfl,_⟩:=hy
    refine fin rfl ?_ (equalIn_nilIface hu _ w)
    rw [hl] at hlt
    unfold eqGuard
    cases neq<;>cases a<;>cases b<;>simp [isLit] at hlt<;>simp
   ·cases h
  ·cases h
   simp only [Rep] at hx hy
   obtain ⟨rfl,_⟩:=hx
   obtain ⟨y',rfl,_⟩:=hy
   exact fin rfl (g0 rfl) (equalIn_iface_l hu _ _ _ w)
  ·cases h
   simp only [Rep] at hx hy
   obtain ⟨rfl,_⟩:=hy
   obtain ⟨y',rfl,_⟩:=hx
   exact fin rfl (g0 rfl) (equalIn_iface_r hu _ _ _ w)
  ·cases h
 ·rename_i e hu
  simp only [eqOf,eqPtr] at h
  split at h
  ·cases h
   simp only [Rep] at hx hy
   obtain ⟨rfl,_⟩:=hx
   obtain ⟨rfl,_⟩:=hy
   exact fin rfl (g0 rfl) (equalIn_ptr_l hu _ _ w)
  ·cases h
   simp only [Rep] at hx hy
   obtain ⟨rfl,_⟩:=hx
   obtain ⟨_,a',rfl,_⟩:=hy
   exact fin rfl (g0 rfl) (equalIn_ptr_l hu _ _ w)
  ·cases h
   simp only [Rep] at hx hy
   obtain ⟨rfl,_⟩:=hx
   obtain ⟨b',o',rfl,_⟩:=hy
   exact fin rfl (g0 rfl) (equalIn_ptr_l hu _ _ w)
  ·cases h
   simp only [Rep] at hx hy
   obtain ⟨rfl,_⟩:=hy
   obtain ⟨_,a',rfl,_⟩:=hx
   exact fin rfl (g0 rfl) (equalIn_ptr_r hu _ _ w)
  ·cases h
   simp only [Rep] at hx hy
   obtain ⟨rfl,_⟩:=hy
   obtain ⟨b',o',rfl,_⟩:=hx
   exact fin rfl (g0 rfl) (equalIn_ptr_r hu _ _ w)
  ·cases h
 ·rename_i e hu
  simp only [eqOf,eqSlice] at h
  split at h
  ·rename_i o es d0 ds
   split at h
   ·rename_i hlt
    cases h
    rw [hl] at hlt
    have hv:v=.slice none 0 0:=by
     cases b with
     | const c =>
      obtain ⟨rfl,hc⟩:=hb c rfl
      exact const_nilSlice hc.symm
     | _ =>
      cases a with
      | const c =>
       obtain ⟨_,hc⟩:=ha c rfl
       exact (const_noElems hc.symm).elim
      | _=>simp [isLit] at hlt
    subst hv
    obtain ⟨a',l,c,rfl⟩:=rep_slCons hx
    exact fin rfl (g0 rfl) (equalIn_slice_r hu _ _ _ _ w)
   ·cases h
  ·cases h
 ·rename_i fs hu
  split at h
  ·rename_i as hf
   split at h
   ·rename_i hc
    simp only [Bool.and_eq_true,Bool.not_eq_true'] at hc
    obtain ⟨hst,hgd⟩:=hc
    have hk:eqOf (100+aksCode as) neq lit x y=eqAgg (aksCode as) neq x y:=by
     unfold eqOf
     split
     all_goals (try omega)
     rw [if_pos (by omega)]
     congr 1
     omega
    rw [hk] at h
    simp only [eqAgg,Option.bind_eq_some_iff,Option.map_eq_some_iff] at h
    obtain ⟨xs,hxs,ys,hys,r,hr,rfl⟩:=h
    have hx':x=.agg xs:=by cases x<;>simp [D.agg?] at hxs;rw [hxs]
    have hy':y=.agg ys:=by cases y<;>simp [D.agg?] at hys;rw [hys]
    subst hx' hy'
    unfold Rep at hx hy
    obtain ⟨us,rfl,hX⟩:=hx
    obtain ⟨vs,rfl,hY⟩:=hy
    have hfs:P.fieldsOf t=fs:=by unfold Program.fieldsOf;rw [hu]
    have hrun:=eqFields_sim (P:=P) hX hY 9998 fs.toList 0 r as hf (Nat.zero_le _) (Nat.zero_le _) (by simpa using hr)
    refine fin rfl (run_eqGuard_agg w _ t a b us vs hgd) ?_
    rw [run_equalIn_struct w 9999 t us vs (by rw [hfs];exact hu) hst,hfs]
    exact hrun
   ·simp [eqOf] at h
  ·simp [eqOf] at h
 ·simp [eqOf] at h
theorem bin_sim {op:BinOp} {t:TypeId} {x y d:D} {a b:Operand} (h:binD P op t (isLit a || isLit b) x y=some d) {gh:Gh} {w:World} {u v:Value}
  (ha:∀ c,a=.const c→u=c∧x=ofConst c) (hb:∀ c,b=.const c→v=c∧y=ofConst c)
  (hx:Rep gh w x u) (hy:Rep gh w y v):∃ z,(do eqGuard op t a b u v;binOp op t u v:Sem Value).run P w=.ok z w∧Rep gh w d z:=by
 have h0:∀ op k k' n n',(eqGuard op t a b (.int k n) (.int k' n')).run P w=.ok () w:=by intro op k k' n n';unfold eqGuard;cases op<;>simp
 unfold binD binO at h
 split at h
 ·simp only [Rep] at hx hy
  subst hx hy
  obtain ⟨z,h1,h2⟩:=shift_sim (P:=P) h t gh w
  refine ⟨z, ?_,h2⟩
  simp only [Sem.run_bind,h0,Result.andThen_ok,h1]
 ·simp only [Rep] at hx hy
  subst hx hy
  obtain ⟨z,h1,h2⟩:=shift_sim (P:=P) h t gh w
  refine ⟨z, ?_,h2⟩
  simp only [Sem.run_bind,h0,Result.andThen_ok,h1]
 ·rename_i n1 n2
  split at h
  ·rename_i e
   subst e
   simp only [Rep] at hx hy
   subst hx hy
   have hs:op≠.shl∧op≠.shr:=⟨by rintro rfl;simp [intBinD] at h,by rintro rfl;simp [intBinD] at h⟩
   obtain ⟨z,h1,h2⟩:=intBin_sim (P:=P) h hs t gh w
   refine ⟨z, ?_,h2⟩
   simp only [Sem.run_bind,h0,Result.andThen_ok,h1]
  ·cases h
 ·have hx':=str?_rep (s:=_) (by rfl) hx
  have hy':=str?_rep (s:=_) (by rfl) hy
  subst hx' hy'
  have hs:op≠.shl∧op≠.shr:=⟨by rintro rfl;simp [strBinD] at h,by rintro rfl;simp [strBinD] at h⟩
  obtain ⟨z,h1,h2⟩:=strBin_sim (P:=P) h hs t gh w
  refine ⟨z, ?_,h2⟩
  have hg:∀ s s',(eqGuard op t a b (.string s) (.string s')).run P w=.ok () w:=by intro s s';unfold eqGuard;cases op<;>simp
  simp only [Sem.run_bind,hg,Result.andThen_ok,h1]
 ·have:=eq_sim (P:=P) (neq:=false) h rfl ha hb hx hy
  simpa using this
 ·have:=eq_sim (P:=P) (neq:=true) h rfl ha hb hx hy
  simpa using this
 ·cases h
theorem un_sim {op:UnOp} {x d:D} (h:unD op x=some d) {gh:Gh} {w:World} {u:Value} (hx:Rep gh w x u) :
  ∃ z,(Op.unary op u).run P w=.ok z w∧Rep gh w d z:=by
 unfold unD at h
 split at h
 ·simp only [Rep] at hx
  subst hx
  cases op<;>simp only [reduceCtorEq,Option.some.injEq] at h<;>subst h<;>simp [Op.unary,Op.intArith,Op.intBits,Rep]
 ·simp only [Rep] at hx
  subst hx
  cases op<;>simp only [reduceCtorEq,Option.some.injEq] at h<;>subst h<;>simp [Op.unary,Rep]
 ·cases h
theorem minMax_sim {mx:Bool} {xs:List D} {d:D} (h:minMaxD mx xs=some d) {gh:Gh} {w:World} {ts:Array TypeId} {t:TypeId} {us:Array Value} (hx:RepL gh w xs us.toList) :
  ∃ z,((if mx then Builtin.max_ ts t us else Builtin.min_ ts t us)).run P w=.ok z w∧Rep gh w d z:=by
 unfold minMaxD at h
 split at h
 ·split at h
  ·rename_i e
   subst e
   cases h
   simp only [RepL,Rep] at hx
   obtain ⟨v,r,hu,rfl,v',r',rfl,rfl,rfl⟩:=hx
   obtain ⟨us⟩:=us
   simp only at hu
   subst hu
   cases mx
   ·simp only [Bool.false_eq_true,if_false,Builtin.min_,List.foldlM_cons,List.foldlM_nil,Builtin.min2]
    refine ⟨_,rfl, ?_⟩
    simp only [Rep]
    congr 1
    split<;>omega
   ·simp only [if_true,Builtin.max_,List.foldlM_cons,List.foldlM_nil,Builtin.max2]
    refine ⟨_,rfl, ?_⟩
    simp only [Rep]
    congr 1
    split<;>omega
  ·cases h
 ·cases h
end Go.Vm

/- Each pure operation,third part. -/
namespace Go.Vm
open Go.RowKit
variable {P:Program}

theorem bytesD_map:∀ {ds:List D} {s:List UInt8},bytesD ds=some s→∃ ns:List Int,ds=ns.map (D.int .u8)∧s=ns.map fun n=>n.toNat.toUInt8
 | [],s,h=>by simp only [bytesD,Option.some.injEq] at h;subst h;exact ⟨[],rfl,rfl⟩
 | d::ds,s,h=>by
  unfold bytesD at h
  split at h
  ·rename_i e;simp at e
  ·rename_i n r e
   simp only [List.cons.injEq] at e
   obtain ⟨rfl,rfl⟩:=e
   simp only [Option.map_eq_some_iff] at h
   obtain ⟨s',h,rfl⟩:=h
   obtain ⟨ns,rfl,rfl⟩:=bytesD_map h
   exact ⟨n::ns,rfl,rfl⟩
  ·cases h
theorem foldl_push (ns:List Int):∀ (s:ByteArray),(ns.foldl (fun r n=>r.push (UInt8.ofNat n.toNat)) s).data.toList=s.data.toList++ns.map fun n=>n.toNat.toUInt8:=by
 induction ns with
 | nil=>intro s;simp
 | cons n ns ih=>intro s;simp only [List.foldl_cons,ih];simp [ByteArray.push]
theorem repL_ints {gh:Gh} {w:World} {k:IntKind}:∀ {ns:List Int} {vs:List Value},RepL gh w (ns.map (D.int k)) vs→vs=ns.map (Value.int k)
 | [],vs,h=>by simpa [RepL] using h
 | n::ns,vs,h=>by
  simp only [List.map_cons,RepL,Rep] at h
  obtain ⟨v,r,rfl,rfl,h⟩:=h
  rw [repL_ints h];rfl
theorem add_off (b o n:Nat):(⟨b,o,none⟩:Addr).add n=⟨b,o+n,none⟩:=by unfold Addr.add;split<;>simp_all
theorem RepRow.loads {gh:Gh} {w:World} {b es:Nat} {ds:List D} {off:Nat} (h:RepRow gh w b es ds off) :
  ∃ vss:List Value,vss.length=ds.length∧RepL gh w ds vss∧(∀ v ∈ vss,VC es v) ∧
   ∀ j v,(vss.flatMap fun v=>v.cells.toList)[j]?=some v→gh.stab b (off+j)∧w.cell? ⟨b,off+j,none⟩=some v:=by
 induction ds generalizing off with
 | nil=>exact ⟨[],rfl,by simp [RepL],by simp,by simp⟩
 | cons d ds ih =>
  simp only [RepRow] at h
  obtain ⟨⟨v,h1,h2,h3⟩,h4⟩:=h
  obtain ⟨vss,k1,k2,k3,k4⟩:=ih h4
  refine ⟨v::vss,by simp [k1],by simp only [RepL];exact ⟨v,vss,rfl,h1,k2⟩,fun u hu=>by
   rcases List.mem_cons.1 hu with rfl|hu
   ·exact h2
   ·exact k3 u hu,fun j u hj=>?_⟩
  simp only [List.flatMap_cons] at hj
  rw [List.getElem?_append] at hj
  split at hj
  ·rename_i hlt
   simp only [Array.length_toList] at hlt
   have:=h3 j (h2.1 ▸ hlt)
   refine ⟨this.1,this.2.trans ?_⟩
   simpa using hj
  ·rename_i hge
   simp only [Array.length_toList,Nat.not_lt] at hge
   have:=k4 _ u hj
   rw [h2.1] at hge
   have e:off+es+(j - es)=off+j:=by omega
   rwa [Array.length_toList,h2.1,e] at this
theorem flat_ints (k:IntKind) (ns:List Int):((ns.map (Value.int k)).flatMap fun v=>v.cells.toList)=ns.map (Value.int k):=by
 induction ns with
 | nil=>rfl
 | cons n ns ih=>simpa [Value.cells] using ih
theorem conv_sim {s t:TypeId} {x d:D} (h:convD P s t x=some d) {gh:Gh} {w:World} {u:Value} (hx:Rep gh w x u) :
  ∃ z,(convert s t u).run P w=.ok z w∧Rep gh w d z:=by
 unfold convD convK at h
 split at h
 ·rename_i hs ht
  simp only [convO,convInt,Option.map_eq_some_iff] at h
  obtain ⟨p,hp,rfl⟩:=h
  have:=int?_rep hp hx
  subst this
  simp [convert,run_underlying hs,run_underlying ht,Conv.intToInt,Rep]
 ·rename_i hs ht
  simp only [convO,convStr,Option.map_eq_some_iff] at h
  obtain ⟨p,hp,rfl⟩:=h
  have:=str?_rep hp hx
  subst this
  simp [convert,run_underlying hs,run_underlying ht,Rep]
 ·rename_i e hs ht
  split at h
  ·rename_i he
   simp only [convO,convBytesStr] at h
   split at h
   ·rename_i o es ds
    split at h
    ·rename_i hes
     simp only [Option.map_eq_some_iff] at h
     obtain ⟨s',hb,rfl⟩:=h
     simp only [Rep] at hx
     obtain ⟨a,cap,rfl,hc,ho,hr⟩:=hx
     rw [run_convert_bytes_string w s t e a ds.length cap hs he ht]
     cases ds with
     | nil =>
      simp only [bytesD,Option.some.injEq] at hb
      subst hb
      cases a with
      | none=>exact ⟨.string .empty,by simp [Conv.bytesToString],by simp only [Rep];exact ⟨_,rfl,rfl⟩⟩
      | some a =>
       refine ⟨_,run_bytesToString w a 0 cap [] (by simp [loadCells,loadCellsFrom]), ?_⟩
       simp only [Rep]
       exact ⟨_,rfl,rfl⟩
     | cons d ds =>
      obtain ⟨b,off,rfl,hrow⟩:=hr (by simp)
      have hes1:es=1:=by simpa [esOk] using hes
      subst hes1
      obtain ⟨ns,hns,rfl⟩:=bytesD_map hb
      obtain ⟨vss,k1,k2,k3,k4⟩:=hrow.loads
      rw [hns] at k2
      have hv:=repL_ints k2
      subst hv
      have hfl:=flat_ints .u8 ns
      refine ⟨_,run_bytesToString w _ _ cap ns ?_, ?_⟩
      ·rw [← k1]
       refine run_loadCells_list w _ _ fun j v hj=>?_
       rw [add_off]
       exact (k4 j v (by rw [hfl];exact hj)).2
      ·simp only [Rep]
       refine ⟨_,rfl, ?_⟩
       rw [foldl_push]
       simp
    ·cases h
   ·cases h
  ·simp [convO] at h
 ·simp [convO] at h

theorem optInt_rep {gh:Gh} {w:World} {o:Option D} {x:Option Int} (h:optInt o=some x) {u:Option Value} (hr:∀ d,o=some d→∃ v,u=some v∧Rep gh w d v) (hn:o=none→u=none) :
  (x=none∧u=none)∨∃ k n,x=some n∧u=some (.int k n):=by
 cases o with
 | none=>simp only [optInt,Option.some.injEq] at h;exact .inl ⟨h.symm,hn rfl⟩
 | some d =>
  simp only [optInt,Option.map_eq_some_iff] at h
  obtain ⟨p,hp,rfl⟩:=h
  obtain ⟨v,rfl,hv⟩:=hr d rfl
  exact .inr ⟨p.1,p.2,rfl,by rw [int?_rep hp hv]⟩
theorem bounds_sim {lo hi mx:Option Int} {ul uh um:Option Value} (hl:(lo=none∧ul=none)∨∃ k n,lo=some n∧ul=some (.int k n))
  (hh:(hi=none∧uh=none)∨∃ k n,hi=some n∧uh=some (.int k n)) (hm:(mx=none∧um=none)∨∃ k n,mx=some n∧um=some (.int k n))
  (isS:Bool) (len cap:Nat) (hc:len≤cap) (w:World)
  (hb:0≤lo.getD 0∧lo.getD 0≤hi.getD len∧hi.getD len≤mx.getD len∧mx.getD len≤len∧(mx.isSome→hi.isSome)) :
  (Instr.sliceBounds isS len cap ul uh um).run P w=.ok ((lo.getD 0).toNat,(hi.getD len).toNat,(match mx with|some m=>m.toNat|none=>cap)) w:=by
 obtain ⟨b1,b2,b3,b4,b5⟩:=hb
 rcases hm with ⟨rfl,rfl⟩|⟨km,m,rfl,rfl⟩<;>rcases hh with ⟨rfl,rfl⟩|⟨kh,h,rfl,rfl⟩<;>rcases hl with ⟨rfl,rfl⟩|⟨kl,l,rfl,rfl⟩ <;>
  simp only [Option.getD_some,Option.getD_none,Option.isSome_some,Option.isSome_none,forall_const,Bool.false_eq_true,imp_false] at b1 b2 b3 b4 b5
 ·simp [Instr.sliceBounds]
 ·have:=run_sliceBound (P:=P) w kl l len .sliceB b1 (by omega)
  simp [Instr.sliceBounds,this]
 ·have:=run_sliceBound (P:=P) w kh h cap (if isS then .sliceAcap else .sliceAlen) (by omega) (by omega)
  simp [Instr.sliceBounds,this]
 ·have h1:=run_sliceBound (P:=P) w kh h cap (if isS then .sliceAcap else .sliceAlen) (by omega) (by omega)
  have h2:=run_sliceBound (P:=P) w kl l h.toNat .sliceB b1 (by omega)
  simp [Instr.sliceBounds,h1,h2]
 ·have h1:=run_sliceBound (P:=P) w km m cap (if isS then .slice3Acap else .slice3Alen) (by omega) (by omega)
  have h2:=run_sliceBound (P:=P) w kh h m.toNat .slice3B (by omega) (by omega)
  simp [Instr.sliceBounds,h1,h2]
 ·have h1:=run_sliceBound (P:=P) w km m cap (if isS then .slice3Acap else .slice3Alen) (by omega) (by omega)
  have h2:=run_sliceBound (P:=P) w kh h m.toNat .slice3B (by omega) (by omega)
  have h3:=run_sliceBound (P:=P) w kl l h.toNat .slice3C (by omega) (by omega)
  simp [Instr.sliceBounds,h1,h2,h3]
theorem RepRow.sub {gh:Gh} {w:World} {b es:Nat} {ds:List D} {off:Nat} (h:RepRow gh w b es ds off) (l n:Nat):RepRow gh w b es ((ds.take n).drop l) (off+l * es) :=
 RepRow.of_get fun i d hi=>by
  rw [List.getElem?_drop,List.getElem?_take] at hi
  split at hi
  ·have:=h.get hi
   have e:off+(l+i) * es=off+l * es+i * es:=by rw [Nat.add_mul];omega
   rwa [e] at this
  ·cases hi
theorem slice_sim {t:TypeId} {x d:D} {lo hi mx:Option D} (h:sliceD P t x lo hi mx=some d) {gh:Gh} {w:World} {u:Value} (hx:Rep gh w x u) {ul uh um:Option Value}
  (hl:∀ d,lo=some d→∃ v,ul=some v∧Rep gh w d v) (hl0:lo=none→ul=none) (hh:∀ d,hi=some d→∃ v,uh=some v∧Rep gh w d v) (hh0:hi=none→uh=none)
  (hm:∀ d,mx=some d→∃ v,um=some v∧Rep gh w d v) (hm0:mx=none→um=none) :
  ∃ z,(Instr.sliceAt t u ul uh um).run P w=.ok z w∧Rep gh w d z:=by
 simp only [sliceD,Option.bind_eq_some_iff] at h
 obtain ⟨ut,hu,h⟩:=h
 split at h
 ·simp only [sliceStrO,Option.bind_eq_some_iff] at h
  obtain ⟨l,h1,hq,h2,h⟩:=h
  have hL:=optInt_rep h1 hl hl0
  have hH:=optInt_rep h2 hh hh0
  split at h
  ·have hM:((none:Option Int)=none∧um=none)∨∃ k n,(none:Option Int)=some n∧um=some (.int k n):=.inl ⟨rfl,hm0 rfl⟩
   simp only [Option.bind_eq_some_iff] at h
   obtain ⟨s,hs,h⟩:=h
   have:=str?_rep hs hx
   subst this
   unfold sliceStr at h
   simp only at h
   split at h
   ·rename_i hb
    cases h
    have hb':=bounds_sim (P:=P) hL hH hM false s.length s.length (Nat.le_refl _) w ⟨hb.1,hb.2.1,hb.2.2,by simp,by simp⟩
    have hmx:um=none:=by rcases hM with ⟨_,h⟩|⟨_,_,h,_⟩;exact h;cases h
    subst hmx
    have hsz:(ByteArray.mk s.toArray).size=s.length:=by simp [ByteArray.size]
    refine ⟨.string ((ByteArray.mk s.toArray).extract (l.getD 0).toNat (hq.getD s.length).toNat), ?_, ?_⟩
    ·simp [Instr.sliceAt,Instr.slice,run_underlying hu,hsz,hb']
    ·simp only [Rep]
     refine ⟨_,rfl, ?_⟩
     rw [ByteArray.data_extract,Array.toList_extract,List.extract_eq_take_drop]
     simp only [List.drop_take]
   ·cases h
  ·cases h
 ·rename_i e
  simp only [sliceSlO,Option.bind_eq_some_iff] at h
  obtain ⟨n,hn,l,h1,hq,h2,m,h3,h⟩:=h
  have hL:=optInt_rep h1 hl hl0
  have hH:=optInt_rep h2 hh hh0
  have hM:=optInt_rep h3 hm hm0
  split at h
  ·rename_i o es ds
   split at h
   ·rename_i hes
    unfold sliceSl at h
    simp only at h
    split at h
    ·rename_i hb
     cases h
     simp only [Rep] at hx
     obtain ⟨a,cap,rfl,hc,ho,hr⟩:=hx
     have hb':=bounds_sim (P:=P) hL hH hM true ds.length cap hc w hb
     obtain ⟨b1,b2,b3,b4,b5⟩:=hb
     have hrun:∀ mm,(Instr.sliceBounds true ds.length cap ul uh um).run P w=.ok ((l.getD 0).toNat,(hq.getD ds.length).toNat,mm) w →
       (Instr.sliceAt t (.slice a ds.length cap) ul uh um).run P w=.ok (.slice (if mm=(l.getD 0).toNat then a else a.map (·.add ((l.getD 0).toNat * n))) ((hq.getD ds.length).toNat - (l.getD 0).toNat) (mm - (l.getD 0).toNat)) w:=by
      intro mm hmm
      simp [Instr.sliceAt,Instr.slice,run_underlying hu,hmm,tySize_some hn]
     refine ⟨_,hrun _ hb', ?_⟩
     have hlen:((ds.take (hq.getD ds.length).toNat).drop (l.getD 0).toNat).length=(hq.getD ds.length).toNat - (l.getD 0).toNat:=by simp;omega
     generalize hL':(l.getD 0).toNat=L at *
     generalize hH':(hq.getD ds.length).toNat=H at *
     have hLH:L≤H:=by omega
     have hHn:H≤ds.length:=by omega
     simp only [Rep]
     refine ⟨_,_,by rw [hlen], ?_, ?_,fun hne=>?_⟩
     ·rw [hlen]
      cases m with
      | none=>simp only;omega
      | some m=>simp only at b3 b4 ⊢;simp only [Option.getD_some] at b3 b4;omega
     ·rw [hlen]
      unfold sliceOwn
      cases m with
      | some m =>
       simp only [Option.map_some]
       split
       ·rename_i he
        simp only [OwnOk]
        omega
       ·trivial
      | none =>
       simp only [Option.map_none]
       split
       ·rename_i he
        cases o with
        | sh=>trivial
        | full=>simp only [OwnOk] at ho ⊢;omega
        | own c s =>
         refine ⟨ho.1,fun r q hq'=>?_⟩
         obtain ⟨h5,h6⟩:=ho.2 r q hq'
         refine ⟨by omega,fun he2=>?_⟩
         rcases h6 (by omega) with h7|⟨b,e',lim,off,rfl,rfl,h8,h9⟩
         ·exact .inl (by omega)
         ·by_cases hcl:cap=L
          ·exact .inl (by omega)
          ·have hesn:es=n:=by
            have:=hes.2
            simpa [esOk,Own.isOwn] using this
           subst hesn
           refine .inr ⟨b,e',lim,off+L * es,rfl,by simp [hcl,add_off], ?_, ?_⟩
           ·have:L * es+(H - L) * es=ds.length * es:=by rw [← Nat.add_mul];congr 1;omega
            omega
           ·have:L * es+(cap - L) * es=cap * es:=by rw [← Nat.add_mul];congr 1;omega
            omega
       ·trivial
     ·have hlt:L<H:=by
       rcases Nat.lt_or_ge L H with h|h
       ·exact h
       ·exact absurd (List.eq_nil_of_length_eq_zero (by rw [hlen];omega)) hne
      have hds:ds≠[]:=by rintro rfl;simp at hHn;omega
      obtain ⟨b,off,rfl,hrow⟩:=hr hds
      have hesn:es=n:=by
       have:=hes.2
       simpa [esOk,hds] using this
      subst hesn
      refine ⟨b,off+L * es, ?_,hrow.sub L H⟩
      rw [if_neg]
      ·simp [add_off]
      ·cases m with
       | none=>simp only;omega
       | some m=>simp only;simp only [Option.getD_some] at b3;omega
    ·cases h
   ·cases h
  ·rename_i k off es len
   split at h
   ·rename_i hes
    obtain ⟨hn0,rfl⟩:=hes
    unfold sliceV at h
    simp only at h
    split at h
    ·rename_i hb
     obtain ⟨b1,b2,b3,rfl⟩:=hb
     cases h
     simp only [Rep] at hx
     obtain ⟨hk,a,cap,rfl,hc,hnw,hv⟩:=hx
     have hb':=bounds_sim (P:=P) hL hH hM true len cap hc.1 w ⟨b1,b2,by simpa using b3,by simp,by simp⟩
     have hrun:(Instr.sliceAt t (.slice a len cap) ul uh um).run P w=.ok (.slice (if cap=(l.getD 0).toNat then a else a.map (·.add ((l.getD 0).toNat * es))) ((hq.getD len).toNat - (l.getD 0).toNat) (cap - (l.getD 0).toNat)) w:=by
      simp [Instr.sliceAt,Instr.slice,run_underlying hu,hb',tySize_some hn]
     refine ⟨_,hrun, ?_⟩
     generalize hL':(l.getD 0).toNat=L at *
     generalize hH':(hq.getD len).toNat=H at *
     have hLH:L≤H:=by omega
     have hHn:H≤len:=by omega
     have hcl:=hc.1
     simp only [Rep]
     refine ⟨hk,_,_,rfl,⟨by omega,fun he=>?_,by have:=hc.2.2;omega⟩,hnw,fun b o n x hm=>?_⟩
     ·have:a=none:=by
       split at he
       ·exact he
       ·simpa using he
      have:=hc.2.1 this
      omega
     ·obtain ⟨v1,v2,v3⟩:=hv b o n x hm
      have e1:L * es+(H - L) * es=H * es:=by rw [← Nat.add_mul];congr 1;omega
      have e2:H * es≤len * es:=Nat.mul_le_mul_right _ hHn
      have e3:L * es+(cap - L) * es=cap * es:=by rw [← Nat.add_mul];congr 1;omega
      refine ⟨by omega, ?_,fun he=>?_⟩
      ·by_cases hcL:cap=L
       ·right;omega
       ·rw [if_neg hcL]
        rcases v2 with rfl|⟨v2,v4⟩
        ·left;simp [add_off,Nat.add_assoc]
        ·right;omega
      ·have:=v3 (by omega)
       omega
    ·cases h
   ·cases h
  ·cases h
 ·cases h
end Go.Vm
