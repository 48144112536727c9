/- Functions: deferred calls, recover, what is left behind. -/
import Derived.Test.YtagmpieoalkneaaGreatDoorVmFrz
import Derived.Test.YtagmpieoalkneaaGreatDoorVmFrz
set_option linter.all false
namespace Go.Vm
open Go.RowKit

def resVal (tmps:Array Value):ResultVar→Sem Value
 | .tmp t=>pure (tmps.getD t undef)
 | .cell a t=>do loadVar t (← asAddr (tmps.getD a undef))
theorem results_eq (fn:Func) (tmps:Array Value):results fn tmps=(do let vs ← fn.results.mapM (resVal tmps);pure (if h:vs.size=1 then vs[0] else .tuple vs)):=by
 unfold results
 congr 2
theorem result_sim {P:Program} {e:List D} {A:St} {rv:ResultVar} {d:D} (h:resultD P e A rv=some d) {g:Gh} {w:World} (I:Inv g A w) {tmps:Array Value} (he:RepL g w e tmps.toList) :
  ∃ v,(resVal tmps rv).run P w=.ok v w∧Rep g w d v:=by
 have ev:=fun x=>rep_eval (a:={ tmps,defers:=[] }) he x
 cases rv with
 | tmp t =>
  simp only [resultD,Option.some.injEq] at h
  subst h
  exact ⟨_,rfl,ev (.tmp t)⟩
 | cell a t =>
  simp only [resultD] at h
  obtain ⟨v,h1,h2⟩:=load_sim h I (ev (.tmp a))
  refine ⟨v, ?_,h2⟩
  have hv:=ev (.tmp a)
  simp only [Act.eval] at h1
  have hp:∃ p,tmps.getD a undef=.pointer (some p):=by
   simp only [loadD,loadO,Option.bind_eq_some_iff] at h
   obtain ⟨n,hn,g',hg,h⟩:=h
   simp only [evalO,Act.eval] at hv
   split at h
   ·rename_i cs hd
    rw [hd] at hv
    simp only [Rep] at hv
    obtain ⟨b,off,hp,_⟩:=hv
    exact ⟨_,hp⟩
   ·rename_i k off hd
    rw [hd] at hv
    simp only [Rep] at hv
    obtain ⟨_,p,hp,_⟩:=hv
    exact ⟨p,hp⟩
   ·cases h
  obtain ⟨p,hp⟩:=hp
  rw [hp] at h1
  simpa [resVal,hp,Instr.loadAt,Instr.sureAddr,asAddr] using h1
theorem results_sim {P:Program} {e:List D} {A:St} {g:Gh} {w:World} (I:Inv g A w) {tmps:Array Value} (he:RepL g w e tmps.toList) :
  ∀ (rs:List ResultVar) (ds:List D),resultsD P e A rs=some ds→∃ vs:List Value,
   (rs.mapM (resVal tmps)).run P w=.ok vs w∧RepL g w ds vs
 | [],ds,h=>by
  simp only [resultsD,Option.some.injEq] at h
  subst h
  exact ⟨[],rfl,by simp [RepL]⟩
 | r::rs,ds,h=>by
  simp only [resultsD,Option.bind_eq_some_iff,Option.map_eq_some_iff] at h
  obtain ⟨d,hd,ds',h,rfl⟩:=h
  obtain ⟨v,h1,h2⟩:=result_sim hd I he
  obtain ⟨vs,h3,h4⟩:=results_sim I he rs ds' h
  refine ⟨v::vs, ?_,by simp only [RepL];exact ⟨v,vs,rfl,h2,h4⟩⟩
  simp only [List.mapM_cons,Sem.run_bind]
  rw [h1]
  simp only [Result.andThen_ok,h3,Sem.run_pure]
theorem pack_sim {P:Program} {fn:Func} {e:List D} {A:St} {ds:List D} (h:resultsD P e A fn.results.toList=some ds) {g:Gh} {w:World} (I:Inv g A w) {tmps:Array Value} (he:RepL g w e tmps.toList) :
  ∃ v,(results fn tmps).run P w=.ok v w∧Rep g w (packD ds) v:=by
 obtain ⟨vs,h1,h2⟩:=results_sim I he _ _ h
 have hm:(fn.results.mapM (resVal tmps)).run P w=.ok vs.toArray w:=by
  rw [← Array.toArray_toList (xs:=fn.results),List.mapM_toArray]
  simp only [Sem.run_map]
  rw [h1]
  rfl
 rw [results_eq]
 simp only [Sem.run_bind,hm,Result.andThen_ok,Sem.run_pure]
 refine ⟨_,rfl, ?_⟩
 cases vs with
 | nil =>
  have:=h2.length
  cases ds with
  | nil=>simp [packD,Rep,RepL]
  | cons=>simp at this
 | cons v vs =>
  cases vs with
  | nil =>
   cases ds with
   | nil=>simp [RepL] at h2
   | cons d ds =>
    cases ds with
    | nil =>
     simp only [RepL] at h2
     obtain ⟨v',r,he,h3,rfl⟩:=h2
     cases he
     simpa [packD] using h3
    | cons d' ds=>have:=h2.length;simp at this
  | cons v' vs =>
   cases ds with
   | nil=>have:=h2.length;simp at this
   | cons d ds =>
    cases ds with
    | nil=>have:=h2.length;simp at this
    | cons d' ds =>
     simp only [packD,Rep]
     refine ⟨(v::v'::vs).toArray, ?_,by simpa using h2⟩
     rw [dif_neg (by simp)]

def PsOk (g:Gh) (w:World):PS→FrameMode→Prop
 | none,u=>u=.returning
 | some (d,b),u=>∃ t v,u=.panicking [{ v:=.iface t v,recovered:=b }]∧Rep g w d (.iface t v)
theorem PsOk.ext {g g':Gh} {w w':World} {ps:PS} {u:FrameMode} (h:PsOk g w ps u) (E:Ext g w g' w'):PsOk g' w' ps u:=by
 cases ps with
 | none=>exact h
 | some x=>obtain ⟨t,v,h1,h2⟩:=h;exact ⟨t,v,h1,E.rep h2⟩
def SOk (n:Nat) (g:Gh) (w:World) (c₀:Frame) (cs:List Frame) (o:SOut) (ex:Exit) (a:Act) (cs':List Frame) (w':World):Prop :=
 ∃ g' u',Ext g w g' w'∧Inv g' o.st w'∧EnvOk n g' w' o.env a∧ExOk g' w' o.ex ex∧cs'={ c₀ with mode:=u' }::cs∧PsOk g' w' o.ps u'
theorem SOk.ext {n:Nat} {g g1:Gh} {w w1 w':World} {c₀:Frame} {cs cs':List Frame} {u:FrameMode} {o:SOut} {ex:Exit} {a:Act} (E:Ext g w g1 w1) (h:SOk n g1 w1 { c₀ with mode:=u } cs o ex a cs' w') :
  SOk n g w c₀ cs o ex a cs' w':=by
 obtain ⟨g',u',E',h⟩:=h
 exact ⟨g',u',E.trans E',h⟩

theorem opsS_sim (X:Cx) (hc:CallOk X.P X.call) (ops:Array Oper) (c₀:Frame) (cs:List Frame):∀ (l:List Nat) (os:List Oper),(∀ j:Nat,os[j]?=(l[j]?).bind (ops[·]?))→os.length=l.length →
  ∀ (e:Env) (ps:PS) (A:St) (o:SOut),opsSD X ops os e ps A=some o →
  ∀ (g:Gh) (w:World) (a:Act) (u:FrameMode),Inv g A w→EnvOk X.n g w e a→PsOk g w ps u →
  ∀ Q:Exit→Act→List Frame→World→Prop,(∀ ex a' cs' w',SOk X.n g w { c₀ with mode:=u } cs o ex a' cs' w'→Q ex a' cs' w')→wpOpsS X.P ops Q l a ({ c₀ with mode:=u }::cs) w
 | [],os,hl,hlen,e,ps,A,o,h,g,w,a,u,I,he,hp,Q,hQ=>by
  have:os=[]:=List.eq_nil_of_length_eq_zero hlen
  subst this
  simp only [opsSD,Option.some.injEq] at h
  subst h
  simp only [wpOpsS]
  exact hQ _ _ _ _ ⟨g,u,Ext.refl _ _,I,he,trivial,rfl,hp⟩
 | i::l,[],hl,hlen,e,ps,A,o,h,g,w,a,u,I,he,hp,Q,hQ=>by simp at hlen
 | i::l,op::os,hl,hlen,e,ps,A,o,h,g,w,a,u,I,he,hp,Q,hQ=>by
  have hop:ops[i]?=some op:=by simpa using (hl 0).symm
  have hl':∀ j:Nat,os[j]?=(l[j]?).bind (ops[·]?):=fun j=>by simpa using hl (j+1)
  have hlen':os.length=l.length:=by simpa using hlen
  have next:∀ (g1:Gh) (w1:World) (e1:Env) (ps1:PS) (A1:St) (a1:Act) (u1:FrameMode),Ext g w g1 w1→Inv g1 A1 w1→EnvOk X.n g1 w1 e1 a1→PsOk g1 w1 ps1 u1→opsSD X ops os e1 ps1 A1=some o →
    wpOpsS X.P ops Q l a1 ({ c₀ with mode:=u1 }::cs) w1:=by
   intro g1 w1 e1 ps1 A1 a1 u1 E I1 he1 hp1 h1
   exact opsS_sim X hc ops c₀ cs l os hl' hlen' e1 ps1 A1 o h1 g1 w1 a1 u1 I1 he1 hp1 Q fun ex a' cs' w' ho=>hQ _ _ _ _ (SOk.ext (c₀:={ c₀ with mode:=u }) E ho)
  simp only [opsSD] at h
  simp only [wpOpsS,hop]
  cases hr:recOp op.op with
  | true =>
   rw [hr] at h
   simp only [cond_true] at h
   cases hg:op.guard with
   | some x=>rw [hg] at h;simp at h
   | none =>
    rw [hg] at h
    simp only [Option.isNone_none,cond_true] at h
    have hw:Region.wanted op (yielded ops a.tmps)=true:=by simp [Region.wanted,hg]
    rw [if_pos hw]
    have hrun:(execOp a.eval op).run X.P w=.ok .recover w:=by
     obtain ⟨dst,opc,type,pos,after,guard⟩:=op
     cases opc<;>simp only [recOp,Bool.false_eq_true] at hr
     rename_i c
     obtain ⟨callee,args,argTypes⟩:=c
     cases callee<;>(try (simp only [Bool.false_eq_true] at hr;done))
     rename_i b
     cases b<;>(try (simp only [Bool.false_eq_true] at hr;done))
     simp [execOp,resolve,invoke,builtin]
    rw [hrun]
    simp only
    cases ps with
    | none =>
     simp only [PsOk] at hp
     subst hp
     simp only [recoverD]
     exact next g w _ none A _ _ (Ext.refl _ _) I (he.put op.dst (by simp [recoverPS,Rep,isAtom])) rfl h
    | some x =>
     obtain ⟨d,b⟩:=x
     obtain ⟨t,v,rfl,hv⟩:=hp
     cases b with
     | true =>
      simp only [recoverD]
      exact next g w _ (some (d,true)) A _ _ (Ext.refl _ _) I (he.put op.dst (by simp [recoverPS,Rep,isAtom])) ⟨t,v,rfl,hv⟩ h
     | false =>
      simp only [recoverD]
      exact next g w _ (some (d,true)) A _ _ (Ext.refl _ _) I (he.put op.dst (by simpa [recoverPS] using hv)) ⟨t,v,rfl,hv⟩ h
  | false =>
   rw [hr] at h
   simp only [cond_false,Option.bind_eq_some_iff] at h
   obtain ⟨o1,h1,h⟩:=h
   cases hy:yldCall e.t op.op with
   | true=>rw [hy] at h1;simp at h1
   | false =>
   rw [hy] at h1
   simp only [cond_false] at h1
   have hs:=ops_simP X hc ops X.n [op] e A o1 (by simp [hy]) h1 g w a I he (OutOk X.n g w o1) fun _ _ _ h=>h
   simp only [wpList] at hs
   -- behind the one operation
   have go:∀ ex a' w',OutOk X.n g w o1 ex a' w'→match ex with
     | .normal=>wpOpsS X.P ops Q l a' ({ c₀ with mode:=u }::cs) w'
     | ex=>Q ex a' ({ c₀ with mode:=u }::cs) w':=by
    intro ex a' w' ⟨g1,E,I1,he1,hex⟩
    cases hx:o1.ex with
    | normal =>
     rw [hx] at h hex
     cases ex<;>simp only [ExOk] at hex
     exact next g1 w' _ _ _ a' u E I1 he1 (hp.ext E) h
    | exit id =>
     rw [hx] at h hex
     simp only [Option.some.injEq] at h
     subst h
     cases ex<;>simp only [ExOk] at hex
     exact hQ _ _ _ _ ⟨g1,u,E,I1,he1,hex,rfl,hp.ext E⟩
    | ret =>
     rw [hx] at h hex
     simp only [Option.some.injEq] at h
     subst h
     cases ex<;>simp only [ExOk] at hex
     exact hQ _ _ _ _ ⟨g1,u,E,I1,he1,hex,rfl,hp.ext E⟩
    | pan d =>
     rw [hx] at h hex
     simp only [Option.some.injEq] at h
     subst h
     cases ex<;>simp only [ExOk] at hex
     exact hQ _ _ _ _ ⟨g1,u,E,I1,he1,hex,rfl,hp.ext E⟩
   have noOut:∀ a w',¬ OutOk X.n g w o1 .outgrown a w':=by
    intro a w' ⟨g1,E,I1,he1,hex⟩
    cases hx:o1.ex<;>rw [hx] at hex<;>exact hex
   by_cases hw:Region.wanted op (yielded ops a.tmps)=true
   ·rw [if_pos hw] at hs ⊢
    rcases hs with hs|⟨_,a₀,w₀,hl0⟩
    ·unfold Oper.wp at hs
     generalize (execOp a.eval op).run X.P w=r at hs ⊢
     have mono:op.upon X.P a (fun a' w'=>wpOpsS X.P ops Q l a' ({ c₀ with mode:=u }::cs) w') (fun e a' w'=>Q e a' ({ c₀ with mode:=u }::cs) w') r:=by
      cases r with
      | ok nx w' =>
       cases nx<;>simp only [Oper.upon] at hs ⊢
       case value v=>exact go _ _ _ hs
       case skip=>exact go _ _ _ hs
       case defer d=>exact go _ _ _ hs
       case enter f args =>
        refine Calls.mono hs fun en w'' hen=>?_
        cases en with
        | returned v=>exact go _ _ _ hen
        | panicked chain=>exact go _ _ _ hen
        | outgrown=>obtain ⟨a₀,w₀,hl0⟩:=hen;exact absurd hl0 (noOut a₀ w₀)
       case row row args=>exact Rows.mono hs fun v w'' hv=>go _ _ _ hv
      | halt x w' =>
       cases x<;>simp only [Oper.upon] at hs ⊢
       exact go _ _ _ hs
     cases r with
     | ok nx w'=>cases nx<;>first|exact mono|(simp only [Oper.upon] at hs)
     | halt x w'=>exact mono
    ·exact absurd hl0 (noOut a₀ w₀)
   ·rw [if_neg hw] at hs ⊢
    exact go _ _ _ hs
theorem codeS_sim (X:Cx) (hc:CallOk X.P X.call) (hi:ItOk X.it) (hd:DrawOk X) (c₀:Frame) (cs:List Frame):∀ (c:Code) (e:Env) (ps:PS) (A:St) (o:SOut),codeSD X c e ps A=some o →
  ∀ (g:Gh) (w:World) (a:Act) (u:FrameMode),Inv g A w→EnvOk X.n g w e a→PsOk g w ps u →
  ∀ Q:Exit→Act→List Frame→World→Prop,(∀ ex a' cs' w',SOk X.n g w { c₀ with mode:=u } cs o ex a' cs' w'→Q ex a' cs' w')→c.wpS X.P Q a ({ c₀ with mode:=u }::cs) w:=by
 -- without a recover: as any code
 have plain:∀ (c:Code),noRf c=true→∀ (e:Env) (ps:PS) (A:St) (o:SOut),((codeD X c e A).map fun o=>(⟨o.ex,o.env,ps,o.st⟩:SOut))=some o →
   ∀ (g:Gh) (w:World) (a:Act) (u:FrameMode),Inv g A w→EnvOk X.n g w e a→PsOk g w ps u →
   ∀ Q:Exit→Act→List Frame→World→Prop,(∀ ex a' cs' w',SOk X.n g w { c₀ with mode:=u } cs o ex a' cs' w'→Q ex a' cs' w')→c.wpS X.P Q a ({ c₀ with mode:=u }::cs) w:=by
  intro c hnr e ps A o h g w a u I he hp Q hQ
  simp only [Option.map_eq_some_iff] at h
  obtain ⟨o1,h1,rfl⟩:=h
  refine wpS_of_wp (wpIn_wide (n:=0).1 (code_sim X hc hi hd none c hnr (.inl rfl) e A o1 h1 g w a I he _ fun ex a' w' ⟨g1,E,I1,he1,hex⟩=>?_))
  exact hQ _ _ _ _ ⟨g1,u,E,I1,he1,hex,rfl,hp.ext E⟩
 have plain':∀ (c:Code) (e:Env) (ps:PS) (A:St) (o:SOut),((cond (noRf c) (codeD X c e A) none).map fun o=>(⟨o.ex,o.env,ps,o.st⟩:SOut))=some o →
   ∀ (g:Gh) (w:World) (a:Act) (u:FrameMode),Inv g A w→EnvOk X.n g w e a→PsOk g w ps u →
   ∀ Q:Exit→Act→List Frame→World→Prop,(∀ ex a' cs' w',SOk X.n g w { c₀ with mode:=u } cs o ex a' cs' w'→Q ex a' cs' w')→c.wpS X.P Q a ({ c₀ with mode:=u }::cs) w:=by
  intro c e ps A o h
  cases hnr:noRf c with
  | false=>rw [hnr] at h;simp at h
  | true=>rw [hnr] at h;exact plain c hnr e ps A o h
 intro c
 induction c with
 | seq x y ihx ihy =>
  intro e ps A o h g w a u I he hp Q hQ
  simp only [codeSD,Option.bind_eq_some_iff] at h
  obtain ⟨o1,h1,h⟩:=h
  refine wpS_seq (ihx e ps A o1 h1 g w a u I he hp _ fun ex a' cs' w' ⟨g1,u1,E,I1,he1,hex,hcs,hp1⟩=>?_)
  subst hcs
  unfold SOut.seq at h
  cases hx:o1.ex with
  | normal =>
   rw [hx] at h hex
   cases ex<;>simp only [ExOk] at hex
   exact ihy _ _ _ o h g1 w' a' u1 I1 he1.expand hp1 Q fun ex a2 cs2 w2 ho=>hQ _ _ _ _ (SOk.ext (c₀:={ c₀ with mode:=u }) E ho)
  | exit id =>
   rw [hx] at h hex
   simp only [Option.some.injEq] at h
   subst h
   cases ex<;>simp only [ExOk] at hex
   exact hQ _ _ _ _ ⟨g1,u1,E,I1,he1,by simpa [ExOk] using hex,rfl,hp1⟩
  | ret =>
   rw [hx] at h hex
   simp only [Option.some.injEq] at h
   subst h
   cases ex<;>simp only [ExOk] at hex
   exact hQ _ _ _ _ ⟨g1,u1,E,I1,he1,trivial,rfl,hp1⟩
  | pan d =>
   rw [hx] at h hex
   simp only [Option.some.injEq] at h
   subst h
   cases ex<;>simp only [ExOk] at hex
   exact hQ _ _ _ _ ⟨g1,u1,E,I1,he1,hex,rfl,hp1⟩
 | cond c x y ihx ihy =>
  intro e ps A o h g w a u I he hp Q hQ
  simp only [codeSD,Option.bind_eq_some_iff] at h
  obtain ⟨t,ht,h⟩:=h
  have hv:=bool?_rep ht (rep_eval he.t c)
  refine wpS_cond hv ?_
  cases t
  ·exact ihy e ps A o h g w a u I he hp Q hQ
  ·exact ihx e ps A o h g w a u I he hp Q hQ
 | region id ops draw =>
  intro e ps A o h g w a u I he hp Q hQ
  simp only [codeSD] at h
  cases hrec:ops.any fun o=>recOp o.op with
  | false =>
   rw [hrec] at h
   exact plain _ rfl e ps A o h g w a u I he hp Q hQ
  | true =>
   rw [hrec] at h
   cases draw with
   | true=>simp at h
   | false =>
    simp only [cond_true,cond_false] at h
    refine wpS_region (opsS_sim X hc ops c₀ cs (List.range ops.size) ops.toList (fun j=>?_) (by simp) e ps A o h g w a u I he hp Q hQ)
    rcases Nat.lt_or_ge j ops.size with hj|hj
    ·rw [List.getElem?_range hj];simp
    ·rw [List.getElem?_eq_none (by simpa using hj),List.getElem?_eq_none (by simpa using hj)];rfl
 | skip=>exact fun e ps A o h=>plain' _ e ps A o h
 | label l=>exact fun e ps A o h=>plain' _ e ps A o h
 | exit id=>exact fun e ps A o h=>plain' _ e ps A o h
 | ret=>exact fun e ps A o h=>plain' _ e ps A o h
 | block id c ih=>exact fun e ps A o h=>plain' _ e ps A o h
 | loop c ih=>exact fun e ps A o h=>plain' _ e ps A o h
 | rangeFunc f ps' x y=>exact fun e ps A o h=>plain' _ e ps A o h
 | scope c=>exact fun e ps A o h=>plain' _ e ps A o h
 | goto l=>exact fun e ps A o h=>plain' _ e ps A o h
 | refuse s=>exact fun e ps A o h=>plain' _ e ps A o h

theorem env0_ok {g:Gh} {w:World} {fn:Func} {args:List D} {vs:List Value} (hl:args.length≤fn.ntmps) (hr:RepL g w args vs) :
  EnvOk fn.ntmps g w (env0 fn args) { tmps:=vs.toArray++Array.replicate (fn.ntmps - vs.toArray.size) undef,defers:=[] }:=by
 refine ⟨by simp [env0];omega, ?_,rfl⟩
 simp only [env0,Array.toList_append,Array.toList_replicate,List.size_toArray]
 rw [← hr.length]
 refine hr.append ?_
 refine RepL.of_get (by simp) fun i d v h1 h2=>?_
 rw [List.getElem?_replicate] at h1 h2
 split at h1
 ·rename_i hlt
  rw [if_pos hlt] at h2
  cases h1;cases h2
  exact rep_undef g w
 ·cases h1

def DOk (P:Program) (f:D) (args:List D) (p:Option D) (A:St) (r:Option D×St):Prop :=
 ∀ (g:Gh) (w:World) (d:Deferred) (u:FrameMode),Inv g A w→RepDf1 g w (f,args) d→PsOk g w (p.map fun d=>(d,false)) u →
  ∃ fv cap k as,d.target=.fn fv cap∧(invoke d.target d.args).run P w=.ok (.enter k as) w∧CallsD P k as u w fun e u' w' =>
   (∃ v,e=.returned v)∧∃ g',Ext g w g' w'∧Inv g' r.2 w'∧PsOk g' w' (r.1.map fun d=>(d,false)) (settle u')

theorem def_sim (X:Cx) (hc:CallOk X.P X.call) (hi:ItOk X.it) (hd:DrawOk X) {k:FuncId} {fn:Func} (hf:X.P.funcs[k]?=some fn) (hok:fnOk fn=true) {first cap args:List D} {p:Option D} {A:St} {r:Option D×St}
  (h:defD X fn (first++args++cap) p A=some r):DOk X.P (.fn (.func k) first cap) args p A r:=by
 intro g w d u I hdf hp
 obtain ⟨fv,fs,cs,vs,h1,h2,h3,h4⟩:=hdf
 simp only [Rep] at h1
 obtain ⟨fs',cs',heq,h1a,h1b⟩:=h1
 cases heq
 have hall:=(h1a.append h2).append h1b
 refine ⟨.func k,cs,k,(fs.toList++vs++cs.toList).toArray,h3, ?_, ?_⟩
 ·rw [h3,h4]
  have e1:(fs.toList++vs++cs.toList).toArray=fs++vs.toArray++cs:=by apply Array.ext';simp
  rw [e1]
  exact fnOk_run hf hok _ w
 ·unfold defD at h
  cases hn:(decide ((first++args++cap).length≤fn.ntmps) && X.n == fn.ntmps) with
  | false=>rw [hn] at h;simp at h
  | true =>
   rw [hn] at h
   simp only [Bool.and_eq_true,decide_eq_true_eq,beq_iff_eq] at hn
   simp only [cond_true,Option.bind_eq_some_iff] at h
   obtain ⟨c,hb,o,ho,h⟩:=h
   refine callsD_of_wpS hf hb fun c₀ css hc₀=>?_
   have henv:EnvOk X.n g w (env0 fn (first++args++cap)) { tmps:=(fs.toList++vs++cs.toList).toArray++Array.replicate (fn.ntmps - (fs.toList++vs++cs.toList).toArray.size) undef,defers:=[] }:=by
    rw [hn.2];exact env0_ok hn.1 hall
   have hc0:c₀={ c₀ with mode:=u }:=by subst hc₀;rfl
   rw [hc0]
   refine codeS_sim X hc hi hd c₀ css c _ _ A o ho g w _ u I henv hp _ fun ex a' cs2 w' ⟨g1,u1,E,I1,he1,hex,hcs,hp1⟩=>?_
   subst hcs
   have fin:∀ (hdfe:o.env.df.isEmpty=true) ds,resultsD X.P o.env.t o.st fn.results.toList=some ds→Kept A o.st→r=((afterPS o.ps).map (D.shut A.length),o.st.take A.length) →
     a'.defers=[]∧∃ u',{ { c₀ with mode:=u } with mode:=u1 }::css={ { c₀ with mode:=u } with mode:=u' }::css∧∃ v,(results fn a'.tmps).run X.P w'=.ok v w' ∧
      ((∃ v',Ending.returned v=.returned v')∧∃ g',Ext g w g' w'∧Inv g' r.2 w'∧PsOk g' w' (r.1.map fun d=>(d,false)) (settle u')):=by
    intro hdfe ds hds hk hr
    have hdf1:=he1.df
    have:o.env.df=[]:=by simpa using hdfe
    rw [this] at hdf1
    obtain ⟨v,hv,_⟩:=pack_sim hds I1 he1.t
    obtain ⟨E',I',K⟩:=I.trunc E I1 hk
    refine ⟨hdf1,u1,rfl,v,hv,⟨v,rfl⟩,_,E',by rw [hr];exact I', ?_⟩
    rw [hr]
    cases hps:o.ps with
    | none =>
     rw [hps] at hp1
     simp only [PsOk] at hp1
     subst hp1
     rfl
    | some x =>
     obtain ⟨dd,b⟩:=x
     rw [hps] at hp1
     obtain ⟨t,v,rfl,hv'⟩:=hp1
     cases b with
     | true=>rfl
     | false =>
      simp only [afterPS,Option.map_some,PsOk]
      refine ⟨t,v,rfl, ?_⟩
      have:=Rep.keep K _ _ hv'
      rw [← I.len]
      exact this
   cases hx:o.ex with
   | exit id=>rw [hx] at h;simp at h
   | pan d=>rw [hx] at h;simp at h
   | normal =>
    rw [hx] at h hex
    cases ex<;>simp only [ExOk] at hex
    cases hde:o.env.df.isEmpty with
    | false=>rw [hde] at h;simp at h
    | true =>
     rw [hde] at h
     simp only [cond_true,Option.bind_eq_some_iff] at h
     obtain ⟨ds,hds,h⟩:=h
     obtain ⟨hk,h⟩:=guardP_eq.1 h
     exact fin hde ds hds hk (by simpa using h.symm)
   | ret =>
    rw [hx] at h hex
    cases ex<;>simp only [ExOk] at hex
    cases hde:o.env.df.isEmpty with
    | false=>rw [hde] at h;simp at h
    | true =>
     rw [hde] at h
     simp only [cond_true,Option.bind_eq_some_iff] at h
     obtain ⟨ds,hds,h⟩:=h
     obtain ⟨hk,h⟩:=guardP_eq.1 h
     exact fin hde ds hds hk (by simpa using h.symm)
theorem leave_sim {g g1:Gh} {A A1:St} {w w1:World} (I:Inv g A w) (E:Ext g w g1 w1) (I1:Inv g1 A1 w1) {k:RetK} {r:Res} {r':Res×St} (h:leaveD k A r A1=some r') {en:Ending} (hen:EndOk g1 w1 r en) :
  ∃ g',Ext g w g' w1∧Inv g' r'.2 w1∧EndOk g' w1 r'.1 en:=by
 have shut:Kept A A1→∃ g',Ext g w g' w1∧Inv g' (A1.take A.length) w1∧EndOk g' w1 (r.shut A.length) en:=by
  intro hk
  obtain ⟨E',I',K⟩:=I.trunc E I1 hk
  refine ⟨_,E',I', ?_⟩
  cases r with
  | ret d =>
   cases en<;>simp only [EndOk] at hen
   have:=Rep.keep K _ _ hen
   rw [← I.len]
   exact this
  | pan d =>
   cases en<;>simp only [EndOk] at hen
   obtain ⟨t,u,rfl,hr⟩:=hen
   refine ⟨t,u,rfl, ?_⟩
   have:=Rep.keep K _ _ hr
   rw [← I.len]
   exact this
 cases k with
 | keep =>
  simp only [leaveD,Option.some.injEq] at h
  subst h
  exact ⟨g1,E,I1,hen⟩
 | trunc =>
  simp only [leaveD] at h
  obtain ⟨hk,h⟩:=guardP_eq.1 h
  cases h
  exact shut hk
 | can =>
  simp only [leaveD] at h
  obtain ⟨hk,h⟩:=guardP_eq.1 h
  cases h
  obtain ⟨g',E',I',hen'⟩:=shut hk
  refine ⟨g',E',I', ?_⟩
  cases r with
  | ret d =>
   cases en<;>simp only [EndOk,Res.shut,Res.canon] at hen' ⊢
   exact Rep.canon _ _ hen'
  | pan d =>
   cases en<;>simp only [EndOk,Res.shut,Res.canon] at hen' ⊢
   obtain ⟨t,u,he,hr⟩:=hen'
   exact ⟨t,u,he,Rep.canon _ _ hr⟩
 | frz =>
  simp only [leaveD] at h
  obtain ⟨hk,h⟩:=guardP_eq.1 h
  cases h
  obtain ⟨E',I'⟩:=I.frz E I1 hk
  refine ⟨_,E',I', ?_⟩
  rw [← I.len]
  cases r with
  | ret d =>
   cases en<;>simp only [EndOk,Res.frz,Res.canon] at hen ⊢
   exact Rep.canon _ _ (frz_rep I1 _ hen)
  | pan d =>
   cases en<;>simp only [EndOk,Res.frz,Res.canon] at hen ⊢
   obtain ⟨t,u,he,hr⟩:=hen
   refine ⟨t,u,he, ?_⟩
   have:=frz_rep I1 g.len hr
   exact Rep.canon _ _ this
 | own =>
  simp only [leaveD] at h
  replace h:=guardP_eq.1 h
  obtain ⟨hk,h⟩:=h
  ·split at h
   ·rename_i c s es ds
    split at h
    ·cases h
     exact shut hk
    ·rename_i hc
     split at h
     ·rename_i m hm
      cases h
      cases en<;>simp only [EndOk] at hen
      rename_i v
      obtain ⟨E',I',K⟩:=I.trunc E I1 hk
      have hl:A.length=g.len:=I.len.symm
      have hc1:c<g1.len:=I1.len ▸ (List.getElem?_eq_some_iff.1 hm).1
      have hsl:=I1.slot c _ hm
      cases hbd:g1.m c with
      | none=>rw [hbd] at hsl;exact hsl.elim
      | wait=>rw [hbd] at hsl;exact hsl.elim
      | var b o n x=>rw [hbd] at hsl;exact hsl.elim
      | obj l=>rw [hbd] at hsl;exact hsl.elim
      | tok q n =>
       rw [hbd] at hsl
       obtain ⟨rfl,hsl⟩:=hsl
       obtain ⟨E2,I2⟩:=I'.bind_new (.tok q n) (.tok n) ⟨rfl,hsl⟩ fun b off ho=>by
        rw [← hbd] at ho
        refine ⟨fun hs=>I1.own c b off hc1 ho hs,fun j hj ho'=>?_⟩
        have hj':j<g.len:=hj
        have:=I1.sep j c b off (Nat.lt_of_lt_of_le hj' E.len) hc1 ho' ho
        omega
       refine ⟨_,E'.trans E2,I2, ?_⟩
       simp only [EndOk,Rep] at hen ⊢
       obtain ⟨a,cap,rfl,hcap,hown,hrow⟩:=hen
       refine ⟨a,cap,by simp,by simpa using hcap, ?_,fun hne=>?_⟩
       ·simp only [OwnOk] at hown ⊢
        refine ⟨by simp [hl],fun r' q' hm'=>?_⟩
        rw [hl] at hm'
        simp only [upd_same,Bind.tok.injEq] at hm'
        obtain ⟨rfl,rfl⟩:=hm'
        simpa using hown.2 _ _ hbd
       ·have hne':ds≠[]:=by rintro rfl;exact hne (by simp [D.shutL])
        obtain ⟨b,off,rfl,hr⟩:=hrow hne'
        refine ⟨b,off,rfl, ?_⟩
        have:=RepRow.keep K _ _ _ _ hr
        rw [hl]
        exact E2.repRow this
     ·cases h
   ·cases h
    exact shut hk

theorem leaves_sim (P:Program) {res:St→Option D} {dcall:D→List D→Option D→St→Option (Option D×St)} (hd:∀ f args p A r,dcall f args p A=some r→DOk P f args p A r) (fn:Func) (e:List D) (tmps:Array Value)
  (hres:∀ A d,res A=some d→∃ ds,resultsD P e A fn.results.toList=some ds∧d=packD ds) :
  ∀ (dfs:List (D×List D)) (p:Option D) (A:St) (r:Res×St),leavesD dcall res dfs p A=some r →
  ∀ (g:Gh) (w:World) (ds:List Deferred) (u:FrameMode),Inv g A w→RepL g w e tmps.toList→RepDf g w dfs ds→PsOk g w (p.map fun d=>(d,false)) u →
  ∀ R:Ending→World→Prop,(∀ en w' g',Ext g w g' w'→Inv g' r.2 w'→EndOk g' w' r.1 en→R en w')→LeavesM P fn tmps R ds u w
 | [],none,A,r,h,g,w,ds,u,I,he,hdf,hp,R,hR=>by
  simp only [leavesD,Option.map_eq_some_iff] at h
  obtain ⟨d,hx0,rfl⟩:=h
  obtain ⟨xs,hx,rfl⟩:=hres _ _ hx0
  simp only [RepDf] at hdf
  subst hdf
  simp only [Option.map_none,PsOk] at hp
  subst hp
  obtain ⟨v,h1,h2⟩:=pack_sim hx I he
  exact ⟨v,h1,hR _ _ g (Ext.refl _ _) I h2⟩
 | [],some q,A,r,h,g,w,ds,u,I,he,hdf,hp,R,hR=>by
  simp only [leavesD,Option.some.injEq] at h
  subst h
  simp only [RepDf] at hdf
  subst hdf
  obtain ⟨t,v,rfl,hv⟩:=hp
  exact hR _ _ g (Ext.refl _ _) I ⟨t,v,rfl,hv⟩
 | (f,args)::dfs,p,A,r,h,g,w,ds,u,I,he,hdf,hp,R,hR=>by
  simp only [leavesD] at h
  obtain ⟨d,ds',rfl,h1,h2⟩:=hdf
  have hu:u≠.run:=by
   cases p with
   | none=>simp only [Option.map_none,PsOk] at hp;rw [hp];simp
   | some q=>obtain ⟨t,v,rfl,_⟩:=hp;simp
  split at h
  ·rename_i k
   split at h
   ·rename_i hk
    obtain ⟨l,hkl,hm,hheap⟩:=slot_dfb I hk
    obtain ⟨_,r',ht,_,hr'⟩:=h1
    have:=hr' l hm
    subst this
    obtain ⟨g',E,I'⟩:=I.drop hkl hm (.deferred none)
    refine ⟨hu,.inl ⟨r',_,ht,run_takeDeferred hheap, ?_⟩⟩
    exact leaves_sim P hd fn e tmps hres dfs p _ r h g' _ ds' u I' (E.repL he) (h2.ext E) (hp.ext E) R fun en w2 g2 E2 I2 h2=>hR _ _ g2 (E.trans E2) I2 h2
   ·cases h
  ·simp only [Option.bind_eq_some_iff] at h
   obtain ⟨x,hx,h⟩:=h
   obtain ⟨fv,cap,k,as,k1,k2,k3⟩:=hd f args p A x hx g w d u I h1 hp
   refine ⟨hu,.inr ⟨fv,cap,k,as,k1,k2,k3.mono fun en u' w' ⟨⟨v,hv⟩,g',E,I',hp'⟩=>?_⟩⟩
   subst hv
   exact leaves_sim P hd fn e tmps hres dfs x.1 x.2 r h g' w' ds' (settle u') I' (E.repL he) (h2.ext E) hp' R fun en w2 g2 E2 I2 h2=>hR _ _ g2 (E.trans E2) I2 h2

theorem fun_sim (X:Cx) (hc:CallOk X.P X.call) (hi:ItOk X.it) (hdr:DrawOk X) {dcall:D→List D→Option D→St→Option (Option D×St)} (hd:∀ f args p A r,dcall f args p A=some r→DOk X.P f args p A r)
  {f:FuncId} (hXf:X.f=f) {fn:Func} (hf:X.P.funcs[f]?=some fn) (hok:fnOk fn=true) {args:List D} {A:St} {r:Res×St} (h:funD X dcall fn args A=some r):Sound X.P f args A r:=by
 subst hXf
 intro g w vs I hr
 left
 refine ⟨fnOk_run hf hok _ w, ?_⟩
 unfold funD at h
 cases hn:(decide (args.length≤fn.ntmps) && X.n == fn.ntmps) with
 | false=>rw [hn] at h;simp at h
 | true =>
  rw [hn] at h
  simp only [Bool.and_eq_true,decide_eq_true_eq,beq_iff_eq] at hn
  simp only [cond_true,Option.bind_eq_some_iff] at h
  obtain ⟨c,hb,o,ho,x,hx,h⟩:=h
  refine calls_of_wpF hf hb ?_
  have henv:EnvOk X.n g w (env0 fn (canA X.h args)) { tmps:=vs.toArray++Array.replicate (fn.ntmps - vs.toArray.size) undef,defers:=[] }:=by rw [hn.2];exact env0_ok (by rw [canA_length];exact hn.1) (RepL.canA X.h hr)
  refine code_simF X hc hi hdr c _ A o ho g w _ I henv _ fun ex a' w' ⟨g1,E,I1,he1,hex⟩=>?_
  have fin:∀ en w2 g2,Ext g1 w' g2 w2→Inv g2 x.2 w2→EndOk g2 w2 x.1 en→∃ g',Ext g w g' w2∧Inv g' r.2 w2∧EndOk g' w2 r.1 en :=
   fun en w2 g2 E2 I2 hen=>leave_sim I (E.trans E2) I2 h hen
  have hres:∀ A d,((resultsD X.P o.env.t A fn.results.toList).map packD)=some d→∃ ds,resultsD X.P o.env.t A fn.results.toList=some ds∧d=packD ds:=by
   intro A d hd
   simp only [Option.map_eq_some_iff] at hd
   obtain ⟨ds,h1,h2⟩:=hd
   exact ⟨ds,h1,h2.symm⟩
  unfold Out.leave at hx
  cases hex':o.ex with
  | exit id=>rw [hex'] at hx;simp at hx
  | normal =>
   rw [hex'] at hx hex
   cases ex<;>simp only [ExOk] at hex
   exact leaves_sim X.P hd fn _ _ hres _ none _ _ hx g1 w' _ .returning I1 he1.t he1.df rfl _ fin
  | ret =>
   rw [hex'] at hx hex
   cases ex<;>simp only [ExOk] at hex
   exact leaves_sim X.P hd fn _ _ hres _ none _ _ hx g1 w' _ .returning I1 he1.t he1.df rfl _ fin
  | pan d =>
   rw [hex'] at hx hex
   cases ex<;>simp only [ExOk] at hex
   obtain ⟨t,u,rfl,hv⟩:=hex
   exact leaves_sim X.P hd fn _ _ hres _ (some d) _ _ hx g1 w' _ _ I1 he1.t he1.df ⟨t,u,rfl,hv⟩ _ fin

def ExtOk (P:Program) (H:Ext0):Prop:=∀ f x,H.ext f=some x→∀ args A r,x args A=some r→Sound P f args A r

theorem itOk_iterN (k:Nat):ItOk (iterN k):=fun _ _ _ _ h=>⟨k,h⟩

theorem run_sim (P:Program) (H:Ext0) (hx:ExtOk P H) (hdr:∀ X:Cx,X.P=P→CallOk X.P X.call→DrawOk X):∀ k,CallOk P (runN P H k):=by
 intro k
 induction k with
 | zero=>intro f ds A r h;simp [runN] at h
 | succ k ih =>
  intro f ds A r h
  simp only [runN,bodyD] at h
  cases hbig:Nat.beq f rOff with
  | true =>
   rw [hbig] at h
   simp only [cond_true] at h
   unfold roundD at h
   split at h
   ·rename_i k' as'
    split at h
    ·rename_i f0 t rf hk
     simp only [Option.bind_eq_some_iff] at h
     obtain ⟨fn,hf,h⟩:=h
     refine ⟨fun g w vs I hr=>?_,fun k0 as hf0 hds=>?_⟩
     ·simp [RepL,Rep] at hr
     ·cases hds
      exact round_sim (mkCx P H (runN P H k) (iterN k) f0 fn) ih (itOk_iterN k) (hdr _ rfl ih) hf hk h
    ·cases h
   ·cases h
  | false =>
  rw [hbig] at h
  simp only [cond_false] at h
  refine ⟨?_,fun k0 as hf0 hds=>by
   rw [hf0,Nat.beq_refl] at hbig
   cases hbig⟩
  split at h
  ·rename_i x hx'
   exact hx f x hx' _ _ _ h
  ·simp only [Option.bind_eq_some_iff] at h
   obtain ⟨fn,hf,h⟩:=h
   cases hok:fnOk fn with
   | false=>rw [hok] at h;simp at h
   | true =>
    rw [hok] at h
    simp only [cond_true] at h
    refine fun_sim (mkCx P H (runN P H k) (iterN k) f fn) ih (itOk_iterN k) (hdr _ rfl ih) (fun f' args' p A' r' h'=>?_) rfl hf hok h
    unfold dcallD at h'
    split at h'
    ·rename_i kf first cap
     simp only [Option.bind_eq_some_iff] at h'
     obtain ⟨fn',hf',h'⟩:=h'
     cases hok':fnOk fn' with
     | false=>rw [hok'] at h';simp at h'
     | true =>
      rw [hok'] at h'
      simp only [cond_true] at h'
      exact def_sim (mkCx P H (runN P H k) (iterN k) kf fn') ih (itOk_iterN k) (hdr _ rfl ih) hf' hok' h'
    ·cases h'
end Go.Vm
