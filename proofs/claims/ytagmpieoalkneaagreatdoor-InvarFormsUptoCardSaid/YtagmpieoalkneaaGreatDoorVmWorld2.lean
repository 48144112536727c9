/- VmPure4, VmWorld, VmWorld2 in one text. -/
import Derived.Test.YtagmpieoalkneaaGreatDoorVmPure3
import Derived.Laws.IdiomStrings
set_option linter.all false
/- Each pure operation: all together. -/
namespace Go.Vm
open Go.RowKit
variable {P:Program}

theorem tyField_some {t:TypeId} {f:Nat} {fd:Field} (h:tyField P t f=some fd):∃ fs,P.underlying t=some (.struct fs)∧fs[f]?=some fd:=by
 simp only [tyField,Option.bind_eq_some_iff] at h
 obtain ⟨ut,hu,h⟩:=h
 cases ut<;>simp only [reduceCtorEq] at h
 exact ⟨_,hu,h⟩
theorem elemOf_some {t:TypeId} {e:TypeId} {n:Nat} {g:Bool} (h:elemOf P t=some (e,n,g)):P.underlying t=some (.slice e)∧tySize P e=some n∧tyAgg P e=some g∧n≠0:=by
 simp only [elemOf,tyElem,Option.bind_eq_some_iff] at h
 obtain ⟨e',⟨ut,hu,h1⟩,n',hn,g',hg,h⟩:=h
 split at h
 ·cases h
 ·rename_i h0
  cases h
  cases ut<;>simp only [reduceCtorEq,Option.some.injEq] at h1
  subst h1
  exact ⟨hu,hn,hg,h0⟩
theorem fieldAddr_sim {s:TypeId} {x d:D} {f:Nat} (h:fieldAddrD P s x f=some d) {gh:Gh} {w:World} {u:Value} (hx:Rep gh w x u) :
  ∃ z,(Instr.fieldAt s u f).run P w=.ok z w∧Rep gh w d z:=by
 simp only [fieldAddrD,Option.bind_eq_some_iff] at h
 obtain ⟨fd,hf,n,hn,h⟩:=h
 obtain ⟨fs,hu,hfd⟩:=tyField_some hf
 split at h
 ·cases h
 ·rename_i h0
  have key:∀ a:Addr,(Instr.fieldAt s (.pointer (some a)) f).run P w=.ok (.pointer (some (a.add fd.offset))) w:=by
   intro a
   simp [Instr.fieldAt,run_underlying hu,hfd,Instr.sureAddr,fieldPlace,tySize_some hn,h0]
  unfold fieldAddrO at h
  split at h
  ·cases h
   simp only [Rep] at hx
   obtain ⟨hk,a,rfl,hnw,ha⟩:=hx
   refine ⟨_,key a, ?_⟩
   simp only [Rep]
   refine ⟨hk,_,rfl,hnw,fun b o n x hm=>?_⟩
   rw [ha b o n x hm,add_off,Nat.add_assoc]
  ·cases h
   simp only [Rep] at hx
   obtain ⟨b,off,rfl,hx⟩:=hx
   refine ⟨_,key _, ?_⟩
   simp only [Rep]
   exact ⟨b,off+fd.offset,by rw [add_off],hx.drop _⟩
  ·cases h
theorem field_sim {s:TypeId} {x d:D} {f:Nat} (h:fieldD P s x f=some d) {gh:Gh} {w:World} {u:Value} (hx:Rep gh w x u) :
  ∃ z,(Instr.field s u f).run P w=.ok z w∧Rep gh w d z:=by
 simp only [fieldD,fieldO,Option.bind_eq_some_iff] at h
 obtain ⟨fd,hf,n,hn,g,hg,cs,hc,h⟩:=h
 obtain ⟨fs,hu,hfd⟩:=tyField_some hf
 obtain ⟨vs,rfl,hr⟩:=agg?_rep hc hx
 obtain ⟨v,h1,h2⟩:=run_part hg hn h hr
 exact ⟨v,by simp [Instr.field,run_underlying hu,hfd,asAgg,h1],h2⟩
theorem indexAddr_sim {t:TypeId} {x i d:D} (h:indexAddrD P t x i=some d) {gh:Gh} {w:World} {u v:Value} (hx:Rep gh w x u) (hi:Rep gh w i v) :
  ∃ z,(Instr.indexAt t u v).run P w=.ok z w∧Rep gh w d z:=by
 simp only [indexAddrD,indexAddrO,Option.bind_eq_some_iff] at h
 obtain ⟨⟨e,n,g⟩,he,⟨k,j⟩,hj,h⟩:=h
 obtain ⟨hu,hn,hg,h0⟩:=elemOf_some he
 have:=int?_rep hj hi
 subst this
 have key:∀ (a:Addr) (len cap:Nat),0≤j→j<len→(Instr.indexAt t (.slice (some a) len cap) (.int k j)).run P w=.ok (.pointer (some (a.add (j.toNat * n)))) w:=by
  intro a len cap h1 h2
  simp [Instr.indexAt,asIntOf,run_underlying hu,h1,h2,tySize_some hn]
 split at h
 ·rename_i o es ds
  split at h
  ·rename_i hc
   simp only [Option.bind_eq_some_iff,Option.map_eq_some_iff] at h
   obtain ⟨d',hd,cs,hcs,rfl⟩:=h
   simp only [Rep] at hx
   obtain ⟨a,cap,rfl,hcap,ho,hr⟩:=hx
   have hne:ds≠[]:=by rintro rfl;simp at hd
   obtain ⟨b,off,rfl,hrow⟩:=hr hne
   have hes:es=n:=by
    have:=hc.2
    simpa [esOk,hne] using this
   subst hes
   have hlt:=(List.getElem?_eq_some_iff.1 hd).1
   refine ⟨_,key _ _ _ hc.1 (by omega), ?_⟩
   simp only [Rep]
   refine ⟨b,off+j.toNat * es,by rw [add_off], ?_⟩
   obtain ⟨v,h1,h2,h3⟩:=hrow.get hd
   have hcr:=cellsT_rep hcs h1
   refine RepAt.of_get fun i c hi=>?_
   obtain ⟨z,hz,hzr⟩:=hcr.get hi
   have hil:i<es:=by
    have:=(List.getElem?_eq_some_iff.1 hz).1
    simpa [h2.1] using this
   refine ⟨z,(h3 i hil).1,(h3 i hil).2.trans (by simpa using hz),hzr⟩
  ·cases h
 ·split at h
  ·rename_i hc
   cases h
   obtain ⟨c1,c2,rfl⟩:=hc
   simp only [Rep] at hx
   obtain ⟨hk,a,cap,rfl,hcap,hnw,ha⟩:=hx
   cases a with
   | none=>have:=hcap.2.1 rfl;omega
   | some a =>
    refine ⟨_,key _ _ _ c1 (by omega), ?_⟩
    simp only [Rep]
    refine ⟨hk,_,rfl,hnw,fun b o m z hm=>?_⟩
    rcases (ha b o m z hm).2.1 with e|e
    ·cases e
     rw [add_off,Nat.add_assoc]
    ·omega
  ·cases h
 ·cases h
theorem index_sim {t:TypeId} {x i d:D} (h:indexD P t x i=some d) {gh:Gh} {w:World} {u v:Value} (hx:Rep gh w x u) (hi:Rep gh w i v) :
  ∃ z,(Instr.index t u v).run P w=.ok z w∧Rep gh w d z:=by
 simp only [indexD,Option.bind_eq_some_iff] at h
 obtain ⟨ut,hu,h⟩:=h
 cases ut<;>simp only [reduceCtorEq] at h
 simp only [indexStrO,Option.bind_eq_some_iff] at h
 obtain ⟨s,hs,⟨k,j⟩,hj,h⟩:=h
 have:=int?_rep hj hi
 subst this
 have:=str?_rep hs hx
 subst this
 split at h
 ·rename_i h0
  simp only [Option.map_eq_some_iff] at h
  obtain ⟨b,hb,rfl⟩:=h
  have hb':(ByteArray.mk s.toArray)[j.toNat]?=some b:=by
   have hlt:=(List.getElem?_eq_some_iff.1 hb).1
   have he:=(List.getElem?_eq_some_iff.1 hb).2
   rw [getElem?_pos _ _ (by simpa [ByteArray.size] using hlt)]
   simp [ByteArray.getElem_eq_getElem_data,he]
  refine ⟨.int .u8 b.toNat, ?_,by simp [Rep]⟩
  simp [Instr.index,asIntOf,run_underlying hu,h0,hb']
 ·cases h
theorem assert_sim {x d:D} {xt t:TypeId} {ok:Bool} (h:assertD P x t ok=some d) {gh:Gh} {w:World} {u:Value} (hx:Rep gh w x u) :
  ∃ z,(Instr.typeAssert u xt t ok).run P w=.ok z w∧Rep gh w d z:=by
 simp only [assertD,Option.bind_eq_some_iff] at h
 obtain ⟨ut,hu,h⟩:=h
 have hni:∀ ms,ut≠.interface ms:=by rintro ms rfl;simp at h
 have fail:∀ (u:Value) (d:D),(u=.nilIface∨∃ k v,u=.iface k v∧k≠t)→ok=true→((tyZero P t).map ofConst).map (fun z=>D.tup [z,.bool false])=some d →
   ∃ z,(Instr.typeAssert u xt t ok).run P w=.ok z w∧Rep gh w d z:=by
  intro u d hu' hok hz
  simp only [Option.map_eq_some_iff] at hz
  obtain ⟨_,⟨z,hz,rfl⟩,rfl⟩:=hz
  subst hok
  refine ⟨.tuple #[z,.bool false], ?_, ?_⟩
  ·rcases hu' with rfl|⟨k,v,rfl,hk⟩
   ·cases ut<;>first|exact absurd rfl (hni _)|simp [Instr.typeAssert,run_underlying hu,tyZero_some hz]
   ·cases ut<;>first|exact absurd rfl (hni _)|simp [Instr.typeAssert,run_underlying hu,tyZero_some hz,hk]
  ·simp only [Rep,RepL]
   exact ⟨_,rfl,_,_,rfl,rep_ofConst gh w z,_,_,rfl,rfl,rfl⟩
 have h':assertV ((tyZero P t).map ofConst) x t ok=some d:=by
  cases ut<;>first|exact absurd rfl (hni _)|exact h
 clear h
 unfold assertV at h'
 split at h'
 ·split at h'
  ·rename_i hok
   simp only [Rep] at hx
   obtain ⟨rfl,_⟩:=hx
   exact fail _ d (.inl rfl) hok h'
  ·cases h'
 ·simp only [Rep] at hx
  obtain ⟨v,rfl,hv⟩:=hx
  split at h'
  ·rename_i e
   subst e
   cases h'
   cases ok
   ·refine ⟨v, ?_,by simpa using hv⟩
    cases ut<;>first|exact absurd rfl (hni _)|simp [Instr.typeAssert,run_underlying hu]
   ·refine ⟨.tuple #[v,.bool true], ?_, ?_⟩
    ·cases ut<;>first|exact absurd rfl (hni _)|simp [Instr.typeAssert,run_underlying hu]
    ·simp only [if_true,Rep,RepL]
     exact ⟨_,rfl,_,_,rfl,hv,_,_,rfl,rfl,rfl⟩
  ·rename_i hne
   split at h'
   ·rename_i hok
    exact fail _ d (.inr ⟨_,_,rfl,hne⟩) hok h'
   ·cases h'
 ·cases h'
theorem extract_sim {x d:D} {i:Nat} (h:extractD x i=some d) {gh:Gh} {w:World} {u:Value} (hx:Rep gh w x u) :
  ∃ z,(Instr.extract u i).run P w=.ok z w∧Rep gh w d z:=by
 unfold extractD at h
 split at h
 ·simp only [Rep] at hx
  obtain ⟨vs,rfl,hr⟩:=hx
  obtain ⟨v,h1,h2⟩:=hr.get h
  have h1':vs[i]?=some v:=by simpa using h1
  exact ⟨v,by simp [Instr.extract,h1'],h2⟩
 ·cases h
theorem len_sim {t:TypeId} {x d:D} (h:lenD P t x=some d) {gh:Gh} {w:World} {u:Value} (hx:Rep gh w x u) (ts:List TypeId) (ty:TypeId) (r:List Value) :
  ∃ z,(Builtin.len_ (t::ts).toArray ty (u::r).toArray).run P w=.ok z w∧Rep gh w d z:=by
 simp only [lenD,Option.bind_eq_some_iff] at h
 obtain ⟨ut,hu,h⟩:=h
 cases ut<;>simp only [reduceCtorEq] at h
 case string =>
  simp only [lenStrO,Option.map_eq_some_iff] at h
  obtain ⟨s,hs,rfl⟩:=h
  have:=str?_rep hs hx
  subst this
  refine ⟨goInt (ByteArray.mk s.toArray).size,by simp [Builtin.len_,run_underlying hu], ?_⟩
  simp [Rep,goInt,ByteArray.size]
 case slice e =>
  unfold lenSlO at h
  split at h
  ·rename_i o es ds
   cases h
   simp only [Rep] at hx
   obtain ⟨a,cap,rfl,_⟩:=hx
   exact ⟨goInt ds.length,by simp [Builtin.len_,run_underlying hu],by simp [Rep,goInt]⟩
  ·rename_i k off es n
   cases h
   simp only [Rep] at hx
   obtain ⟨_,a,cap,rfl,_⟩:=hx
   exact ⟨goInt n,by simp [Builtin.len_,run_underlying hu],by simp [Rep,goInt]⟩
  ·cases h
theorem repL_map {gh:Gh} {w:World} {e:List D} {a:Act} (he:RepL gh w e a.tmps.toList) (xs:List Operand):RepL gh w (xs.map (evalO e)) (xs.map a.eval) :=
 RepL.map _ _ xs fun x _=>rep_eval he x

theorem execOp_v {o:Oper} {a:Act} {s:Sem Value} {w w':World} {z:Value} (he:execOp a.eval o=do pure (.value (← s))) (h:s.run P w=.ok z w') :
  (execOp a.eval o).run P w=.ok (.value z) w':=by rw [he];simp [h]

theorem pure_sim {o:Oper} {e:List D} {a:Act} {d:D} (h:pureD P e o.op=some d) {gh:Gh} {w:World} (he:RepL gh w e a.tmps.toList) :
  ∃ z,(execOp a.eval o).run P w=.ok (.value z) w∧Rep gh w d z:=by
 have ev:=fun x=>rep_eval he x
 obtain ⟨dst,op,type,pos,after,guard⟩:=o
 have fin:∀ {s:Sem Value},execOp a.eval ⟨dst,op,type,pos,after,guard⟩=(do pure (.value (← s)))→(∃ z,s.run P w=.ok z w∧Rep gh w d z)→∃ z,(execOp a.eval ⟨dst,op,type,pos,after,guard⟩).run P w=.ok (.value z) w∧Rep gh w d z :=
  fun h1 ⟨z,h2,h3⟩=>⟨z,execOp_v h1 h2,h3⟩
 cases op<;>simp only [pureD,reduceCtorEq,Option.some.injEq] at h
 case move x=>subst h;exact ⟨a.eval x,rfl,ev x⟩
 case assign x=>subst h;exact ⟨a.eval x,rfl,ev x⟩
 case pick c x y =>
  simp only [Option.map_eq_some_iff] at h
  obtain ⟨b,hb,rfl⟩:=h
  have:=bool?_rep hb (ev c)
  refine ⟨if b then a.eval x else a.eval y,by simp [execOp,this,asBool], ?_⟩
  cases b
  ·exact ev y
  ·exact ev x
 case build t ps =>
  refine fin rfl (build_sim h ?_ ?_)
  ·simp [List.map_map,Function.comp_def]
  ·have:=RepL.map (g:=gh) (w:=w) (fun p:Nat×Operand=>evalO e p.2) (fun p=>a.eval p.2) ps.toList fun p _=>ev p.2
   simpa [List.map_map,Function.comp_def] using this
 case nilCheck x =>
  have hx:=ev x
  cases hd:evalO e x<;>rw [hd] at h hx<;>simp only [nilCheckD,reduceCtorEq,Option.some.injEq] at h
  ·subst h
   have hx':=hx
   simp only [Rep] at hx
   obtain ⟨_,p,hp,_⟩:=hx
   exact ⟨a.eval x,by simp [execOp,hp],hx'⟩
  ·subst h
   have hx':=hx
   simp only [Rep] at hx
   obtain ⟨b,off,hp,_⟩:=hx
   exact ⟨a.eval x,by simp [execOp,hp],hx'⟩
  ·rename_i f first cap
   split at h
   ·cases h
   ·rename_i hf
    cases h
    have hx':=hx
    simp only [Rep] at hx
    obtain ⟨fs,cs,hp,_⟩:=hx
    refine ⟨a.eval x, ?_,hx'⟩
    cases f<;>simp [isMethod] at hf<;>simp [execOp,hp]
 case binOp op t x y t2=>exact fin rfl (bin_sim h (fun c hc=>by subst hc;exact ⟨rfl,rfl⟩) (fun c hc=>by subst hc;exact ⟨rfl,rfl⟩) (ev x) (ev y))
 case unOp op t x=>exact fin rfl (un_sim h (ev x))
 case convert s t x=>exact fin rfl (conv_sim h (ev x))
 case makeInterface t x =>
  simp only [Option.bind_eq_some_iff] at h
  obtain ⟨ut,hu,h⟩:=h
  have hc:P.concrete t=true:=by unfold Program.concrete;rw [hu];cases ut<;>first|rfl|cases h
  refine fin rfl ⟨_,run_makeInterface w t (a.eval x) hc, ?_⟩
  have:d=.iface t (evalO e x):=by cases ut<;>first|(cases h;rfl)|cases h
  subst this
  simp only [Rep]
  exact ⟨_,rfl,ev x⟩
 case makeFunc f first cap =>
  subst h
  refine fin rfl ⟨_,rfl, ?_⟩
  simp only [Rep]
  refine ⟨_,_,rfl, ?_, ?_⟩
  ·simpa using repL_map he first.toList
  ·simpa using repL_map he cap.toList
 case slice t x lo hi mx =>
  refine fin rfl (slice_sim h (ev x) ?_ ?_ ?_ ?_ ?_ ?_)
  ·intro d hd;simp only [Option.map_eq_some_iff] at hd;obtain ⟨o,rfl,rfl⟩:=hd;exact ⟨_,rfl,ev o⟩
  ·intro hd;simp at hd;simp [hd]
  ·intro d hd;simp only [Option.map_eq_some_iff] at hd;obtain ⟨o,rfl,rfl⟩:=hd;exact ⟨_,rfl,ev o⟩
  ·intro hd;simp at hd;simp [hd]
  ·intro d hd;simp only [Option.map_eq_some_iff] at hd;obtain ⟨o,rfl,rfl⟩:=hd;exact ⟨_,rfl,ev o⟩
  ·intro hd;simp at hd;simp [hd]
 case fieldAddr t x f=>exact fin rfl (fieldAddr_sim h (ev x))
 case field t x f=>exact fin rfl (field_sim h (ev x))
 case indexAddr t x i=>exact fin rfl (indexAddr_sim h (ev x) (ev i))
 case index t x i=>exact fin rfl (index_sim h (ev x) (ev i))
 case typeAssert x xt t ok=>exact fin rfl (assert_sim h (ev x))
 case extract x i=>exact fin rfl (extract_sim h (ev x))
 case call c =>
  obtain ⟨callee,args,argTypes⟩:=c
  cases callee<;>simp only [reduceCtorEq] at h
  rename_i b
  have hr:=repL_map he args.toList
  have hargs:(args.map a.eval).toList=args.toList.map a.eval:=by simp
  have hrun:∀ (s:Sem Value),builtin b argTypes type (args.map fun|.const _=>true|_=>false) (args.map a.eval)=(do pure (.value (← s))) →
    (∃ z,s.run P w=.ok z w∧Rep gh w d z)→∃ z,(execOp a.eval ⟨dst,.call ⟨.builtin b,args,argTypes⟩,type,pos,after,guard⟩).run P w=.ok (.value z) w∧Rep gh w d z:=by
   rintro s h1 ⟨z,h2,h3⟩
   refine ⟨z, ?_,h3⟩
   simp only [execOp,resolve,invoke,Sem.run_bind,Sem.run_pure,Result.andThen_ok]
   have:(builtin b argTypes type (args.map fun|.const _=>true|_=>false) (args.map a.eval)).run P w=(do pure (Next.value (← s)):Sem Next).run P w:=by rw [h1]
   refine Eq.trans ?_ (this.trans (by simp [h2]))
   rfl
  cases b<;>simp only [pureBuiltin,reduceCtorEq] at h
  case len =>
   split at h
   ·rename_i t ts x h1 h2
    rw [h2] at hr
    obtain ⟨us,hus⟩:∃ us,args.toList.map a.eval=us:=⟨_,rfl⟩
    rw [hus] at hr hargs
    simp only [RepL] at hr
    obtain ⟨v,r,rfl,hv,rfl⟩:=hr
    refine hrun _ rfl ?_
    have e1:argTypes=(t::ts).toArray:=by rw [← h1]
    have e2:args.map a.eval=[v].toArray:=by rw [← hargs]
    rw [e1,e2]
    exact len_sim h hv ts type []
   ·cases h
  case max=>exact hrun _ rfl (minMax_sim (mx:=true) (ts:=argTypes) (t:=type) h (by rw [hargs];exact hr))
  case min=>exact hrun _ rfl (minMax_sim (mx:=false) (ts:=argTypes) (t:=type) h (by rw [hargs];exact hr))
end Go.Vm

/- The operations that read or turn memory. -/
namespace Go.Vm
open Go.RowKit
variable {P:Program}

theorem exists_cells {gh:Gh} {w:World} {b:Nat}:∀ (l:List D) (o:Nat),(∀ (i:Nat) d,l[i]?=some d→∃ v,w.cell? ⟨b,o+i,none⟩=some v∧Rep gh w d v) →
  ∃ vs:List Value,RepL gh w l vs∧∀ (j:Nat) v,vs[j]?=some v→w.cell? ⟨b,o+j,none⟩=some v
 | [],o,_=>⟨[],by simp [RepL],by simp⟩
 | d::l,o,h=>by
  obtain ⟨v,hv,hr⟩:=h 0 d rfl
  obtain ⟨vs,h1,h2⟩:=exists_cells l (o+1) fun i d hi=>by
   have:=h (i+1) d (by simpa using hi)
   rwa [show o+(i+1)=o+1+i by omega] at this
  refine ⟨v::vs,by simp only [RepL];exact ⟨v,vs,rfl,hr,h1⟩,fun j u hj=>?_⟩
  cases j with
  | zero=>simp at hj;subst hj;exact hv
  | succ j =>
   have:=h2 j u (by simpa using hj)
   rwa [show o+(j+1)=o+1+j by omega]
theorem load_cells {gh:Gh} {w:World} {b o:Nat} {cs:List D} (hc:∀ (i:Nat) d,cs[i]?=some d→∃ v,w.cell? ⟨b,o+i,none⟩=some v∧Rep gh w d v)
  {t:TypeId} {n:Nat} {g:Bool} (hn:tySize P t=some n) (hg:tyAgg P t=some g) {off:Nat} {d:D} (h:ofCells g cs off n=some d) :
  ∃ v,(loadVar t ⟨b,o+off,none⟩).run P w=.ok v w∧Rep gh w d v:=by
 cases g with
 | true =>
  simp only [ofCells,cond_true] at h
  split at h
  ·rename_i hle
   cases h
   obtain ⟨vs,h1,h2⟩:=exists_cells ((cs.drop off).take n) (o+off) fun i d hi=>by
    rw [List.getElem?_take] at hi
    split at hi
    ·rw [List.getElem?_drop] at hi
     have:=hc (off+i) d hi
     rwa [← Nat.add_assoc] at this
    ·cases hi
   have hl:vs.length=n:=by rw [← h1.length];simp;omega
   have hrun:=run_loadCells_list (P:=P) w ⟨b,o+off,none⟩ vs fun j v hj=>by rw [add_off];exact h2 j v hj
   rw [hl] at hrun
   refine ⟨.agg vs.toArray,by simp [loadVar,tyAgg_some hg,tySize_some hn,hrun], ?_⟩
   simp only [Rep]
   exact ⟨_,rfl,h1⟩
  ·cases h
 | false =>
  simp only [ofCells,cond_false] at h
  obtain ⟨v,hv,hr⟩:=hc off d h
  exact ⟨v,by simp [loadVar,tyAgg_some hg,hv],hr⟩
theorem load_sim {t:TypeId} {a d:D} {A:St} (h:loadD P t a A=some d) {gh:Gh} {w:World} (I:Inv gh A w) {u:Value} (ha:Rep gh w a u) :
  ∃ v,(Instr.loadAt t u).run P w=.ok v w∧Rep gh w d v:=by
 simp only [loadD,loadO,Option.bind_eq_some_iff] at h
 obtain ⟨n,hn,g,hg,h⟩:=h
 split at h
 ·simp only [Rep] at ha
  obtain ⟨b,off,rfl,hat⟩:=ha
  have:=load_cells (P:=P) (gh:=gh) (w:=w) (b:=b) (o:=off) (cs:=_) (fun i d hi=>by
   obtain ⟨v,_,h2,h3⟩:=hat.get hi
   exact ⟨v,h2,h3⟩) hn hg h
  simpa [Instr.loadAt,Instr.sureAddr] using this
 ·rename_i k off
  simp only [Option.bind_eq_some_iff] at h
  obtain ⟨s,hs,h⟩:=h
  split at h
  ·rename_i cs
   have hk:k<gh.len:=I.len ▸ (List.getElem?_eq_some_iff.1 hs).1
   have hsl:=I.slot k _ hs
   cases hm:gh.m k with
   | none=>rw [hm] at hsl;exact hsl.elim
   | tok r m=>rw [hm] at hsl;exact hsl.elim
   | obj l=>rw [hm] at hsl;exact hsl.elim
   | wait =>
    simp only [Rep] at ha
    obtain ⟨_,p,rfl,hp⟩:=ha
    exact absurd hm hp.1
   | var b o m x =>
    rw [hm] at hsl
    simp only [Rep] at ha
    obtain ⟨_,p,rfl,hp⟩:=ha
    have:=hp.2 b o m x hm
    subst this
    have:=load_cells (P:=P) (gh:=gh) (w:=w) (b:=b) (o:=o) (cs:=cs) (fun i d hi=>by
     obtain ⟨v,h1,_,_,h4⟩:=hsl.2 i d hi
     exact ⟨v,h1,h4⟩) hn hg h
    simpa [Instr.loadAt,Instr.sureAddr] using this
  ·cases h
 ·cases h

theorem heap_setCells (b:Nat):∀ (vs:List Value) (o:Nat) (w:World) (k:Nat),k≠b→(w.setCells b o vs).heap[k]?=w.heap[k]?
 | [],_,_,_,_=>rfl
 | v::r,o,w,k,h=>by
  rw [World.setCells,heap_setCells b r _ _ k h]
  exact Below.heap_setCell w ⟨b,o,none⟩ v k h
theorem size_setCells (b:Nat):∀ (vs:List Value) (o:Nat) (w:World),(w.setCells b o vs).heap.size=w.heap.size
 | [],_,_=>rfl
 | v::r,o,w=>by rw [World.setCells,size_setCells b r];simp
theorem os_setCells (b:Nat):∀ (vs:List Value) (o:Nat) (w:World),(w.setCells b o vs).os=w.os∧(w.setCells b o vs).tape=w.tape∧(w.setCells b o vs).output=w.output
 | [],_,_=>⟨rfl,rfl,rfl⟩
 | v::r,o,w=>by rw [World.setCells];exact os_setCells b r _ _
theorem store_sim {t:TypeId} {a v:D} {A A':St} (h:storeD P t a v A=some A') {gh:Gh} {w:World} (I:Inv gh A w) {u z:Value} (ha:Rep gh w a u) (hv:Rep gh w v z) :
  ∃ w',(Instr.storeAt t u z).run P w=.ok () w'∧Ext gh w gh w'∧Inv gh A' w':=by
 simp only [storeD,storeO,Option.bind_eq_some_iff] at h
 obtain ⟨n,hn,g,hg,vs,hvs,h⟩:=h
 obtain ⟨hcells,hall⟩:=cellsT_rep' hvs hv
 split at h
 ·rename_i k off
  simp only [Option.bind_eq_some_iff] at h
  obtain ⟨s,hs,h⟩:=h
  split at h
  ·rename_i cs
   split at h
   ·rename_i hlen
    cases h
    have hk:k<gh.len:=I.len ▸ (List.getElem?_eq_some_iff.1 hs).1
    have hsl:=I.slot k _ hs
    cases hm:gh.m k with
    | none=>rw [hm] at hsl;exact hsl.elim
    | tok r m=>rw [hm] at hsl;exact hsl.elim
    | obj l=>rw [hm] at hsl;exact hsl.elim
    | wait =>
     simp only [Rep] at ha
     obtain ⟨_,p,rfl,hp⟩:=ha
     exact absurd hm hp.1
    | var b o m x =>
     rw [hm] at hsl
     obtain ⟨⟨rfl,hxc⟩,hsl⟩:=hsl
     simp only [Rep] at ha
     obtain ⟨_,p,rfl,hp⟩:=ha
     have:=hp.2 b o _ x hm
     subst this
     have hzl:z.cells.toList.length=n:=by rw [← hcells.length];exact hlen.1
     have hcell:∀ j,j<cs.length→∃ v,w.cell? ⟨b,o+j,none⟩=some v∧w.frozen? ⟨b,o+j,none⟩=false:=by
      intro j hj
      obtain ⟨v,h1,h2,_,_⟩:=hsl j cs[j] (List.getElem?_eq_getElem hj)
      exact ⟨v,h1,h2⟩
     have hrun:=run_storeCells_cells (P:=P) b (o+off) z.cells.toList 0 w
      (fun j hj=>by
       obtain ⟨v,h1,_⟩:=hcell (off+j) (by omega)
       simp [Nat.add_assoc,h1])
      (fun j hj=>by
       obtain ⟨v,_,h2⟩:=hcell (off+j) (by omega)
       simpa [Nat.add_assoc] using h2)
      (oneCell_of hall hcells)
     simp only [Nat.add_zero] at hrun
     let w':=w.setCells b (o+off) z.cells.toList
     obtain ⟨p1,p2,p3⟩:=os_setCells b z.cells.toList (o+off) w
     have hout:∀ b' off',¬ (gh.m k).owns b' off'→w'.cell? ⟨b',off',none⟩=w.cell? ⟨b',off',none⟩:=by
      intro b' off' hno
      refine World.cell?_setCells_out b _ _ _ _ fun e _=>?_
      simp only at e
      subst e
      rcases Nat.eq_zero_or_pos (cs.length+x) with h0|h0
      ·simp only;omega
      ·exact absurd (show (gh.m k).owns b' off' by rw [hm];exact ⟨rfl,h0⟩) hno
     obtain ⟨E,hI⟩:=I.write (w':=w') k hk p1 p2 p3 (Nat.le_of_eq (size_setCells b _ _ _).symm)
      (fun b' hb' hno=>by
       by_cases e:b'=b
       ·subst e
        rcases Nat.eq_zero_or_pos (cs.length+x) with h0|h0
        ·have:z.cells.toList=[]:=List.eq_nil_of_length_eq_zero (by omega)
         show (w.setCells b' (o+off) z.cells.toList).heap[b']?=_
         rw [this];rfl
        ·exact absurd (show (gh.m k).owns b' 0 by rw [hm];exact ⟨rfl,h0⟩) (hno 0)
       ·exact heap_setCells b _ _ _ b' e)
      (fun b' off' hb' hno=>⟨hout b' off' hno,World.frozen?_setCells b _ _ _ _⟩)
     refine ⟨w', ?_,E,hI _ ?_⟩
     ·have hsz:z.cells.size=n:=by simpa using hzl
      simp only [Instr.storeAt,Instr.sureAddr,Sem.run_bind,Sem.run_pure,Result.andThen_ok,storeVar,tySize_some hn]
      rw [if_neg (by simp [hsz])]
      simpa using hrun
     ·rw [hm]
      refine ⟨⟨by simp [splice];omega,fun hp=>⟨by rw [size_setCells];exact (hxc.1 hp).1,fun off'=>(World.frozen?_setCells b _ _ _ _).trans ((hxc.1 hp).2 off')⟩,fun j j1 j2=>?_⟩,fun j d hj=>?_⟩
      ·obtain ⟨⟨v,q1⟩,q2⟩:=hxc.2 j (by omega) (by omega)
       refine ⟨⟨v,(World.cell?_setCells_out b _ _ _ _ fun _ _=>?_).trans q1⟩,(World.frozen?_setCells b _ _ _ _).trans q2⟩
       right;simp only;omega
      unfold splice at hj
      rw [List.getElem?_append] at hj
      split at hj
      ·rename_i h1
       rw [List.getElem?_append] at hj
       split at hj
       ·rename_i h2
        rw [List.getElem?_take] at hj
        split at hj
        ·rename_i h3
         obtain ⟨v,k1,k2,k3,k4⟩:=hsl j d hj
         refine ⟨v, ?_,(World.frozen?_setCells b _ _ _ _).trans k2,k3,E.rep k4⟩
         refine (World.cell?_setCells_out b _ _ _ _ fun _ _=>?_).trans k1
         left;simp;omega
        ·cases hj
       ·rename_i h2
        simp only [List.length_take,List.length_append] at h1 h2 hj
        have hmin:min off cs.length=off:=by omega
        rw [hmin] at hj h1 h2
        obtain ⟨u,hu,hur⟩:=hcells.get hj
        have hjl:j - off<z.cells.toList.length:=(List.getElem?_eq_some_iff.1 hu).1
        obtain ⟨v0,q1,q2⟩:=hcell j (by omega)
        refine ⟨u, ?_,(World.frozen?_setCells b _ _ _ _).trans q2,oneCell_of hall hcells u (List.mem_of_getElem? hu),E.rep hur⟩
        have:=World.cell?_setCells_in b z.cells.toList (o+off) w (fun i hi=>by
         obtain ⟨v,h1,_⟩:=hcell (off+i) (by omega)
         simp [Nat.add_assoc,h1]) (j - off) hjl
        rw [show o+off+(j - off)=o+j by omega] at this
        rw [this]
        rw [← hu,List.getElem?_eq_getElem hjl]
      ·rename_i h1
       rw [List.getElem?_drop] at hj
       simp only [List.length_append,List.length_take] at h1 hj
       have hmin:min off cs.length=off:=by omega
       rw [hmin] at hj h1
       have e:off+vs.length+(j - (off+vs.length))=j:=by omega
       rw [e] at hj
       obtain ⟨v,k1,k2,k3,k4⟩:=hsl j d hj
       refine ⟨v, ?_,(World.frozen?_setCells b _ _ _ _).trans k2,k3,E.rep k4⟩
       refine (World.cell?_setCells_out b _ _ _ _ fun _ _=>?_).trans k1
       right;simp only;omega
   ·cases h
  ·cases h
 ·cases h
theorem box_sim {cs:List D} {z:Value} {elem:TypeId} {A:St} {gh:Gh} {w:World} (I:Inv gh A w) (hr:RepL gh w cs z.cells.toList) (hall:allCells cs=true) :
  ∃ w' g',(newVar elem z).run P w=.ok ⟨w.heap.size,0,none⟩ w'∧Ext gh w g' w'∧Inv g' (allocD cs A).2 w'∧Rep g' w' (allocD cs A).1 (.pointer (some ⟨w.heap.size,0,none⟩)):=by
 obtain ⟨g',E,I',R⟩:=I.alloc_var z.cells elem cs hr (fun v hv=>oneCell_of hall hr v (by simpa using hv))
 exact ⟨_,g',by simp [newVar,newRow],E,I',R⟩

theorem fillSeq {n:Nat}:∀ (vs:List Value) (k:Nat) (c:Array Value),(∀ v ∈ vs,v.cells.size=n)→(k+vs.length) * n≤c.size →
  ∃ c',Instr.fill (fun i=>some (i * n,n)) c (vs.zipIdx k |>.map fun p=>(p.2,p.1))=some c' ∧
   c'.toList=c.toList.take (k * n)++(vs.flatMap fun v=>v.cells.toList)++c.toList.drop ((k+vs.length) * n)
 | [],k,c,_,_=>⟨c,rfl,by simp⟩
 | v::vs,k,c,hv,hc=>by
  have hvn:=hv v (by simp)
  have hle:(k+1) * n≤c.size:=Nat.le_trans (Nat.mul_le_mul_right n (by simp only [List.length_cons];omega)) hc
  have hle':k * n+n≤c.size:=by rw [Nat.add_mul] at hle;omega
  have hfold:=fold_set_splice v.cells.toList 0 (k * n) c (by rw [Array.length_toList,hvn];omega)
  simp only [Array.toArray_toList,Nat.add_zero,Array.length_toList,hvn] at hfold
  obtain ⟨c',h1,h2⟩:=fillSeq vs (k+1) (v.cells.zipIdx.foldl (fun cs (x:Value×Nat)=>cs.setIfInBounds (k * n+x.2) x.1) c) (fun u hu=>hv u (by simp [hu])) (by
   rw [← Array.length_toList,hfold]
   simp only [List.length_append,List.length_take,List.length_drop,Array.length_toList,hvn]
   simp only [List.length_cons] at hc
   rw [show k+1+vs.length=k+(vs.length+1) by omega]
   omega)
  refine ⟨c', ?_, ?_⟩
  ·simp only [List.zipIdx_cons,List.map_cons,Instr.fill]
   rw [if_neg (by simp [hvn];try omega)]
   exact h1
  ·rw [h2,hfold]
   have e1:(k+1) * n=k * n+n:=by rw [Nat.add_mul];omega
   have e2:(k+1+vs.length) * n=(k * n+n)+vs.length * n:=by rw [Nat.add_mul,e1]
   have e3:(k+(v::vs).length) * n=(k * n+n)+vs.length * n:=by rw [List.length_cons,← e2];congr 1;omega
   rw [e2,e3]
   have hA:(c.toList.take (k * n)++v.cells.toList).length=k * n+n:=by simp [hvn];try omega
   rw [e1,List.take_append_of_le_length (by omega),List.take_of_length_le (by omega),List.drop_append,List.drop_of_length_le (by rw [hA];omega),hA]
   simp only [List.nil_append,List.drop_drop,List.flatMap_cons,List.append_assoc]
   congr 4
   omega
theorem sliceParts_spec {n:Nat} {g:Bool}:∀ {i:Nat} {parts:List (Nat×D)} {ds:List D},sliceParts n g i parts=some ds →
  parts.map (·.1)=List.range' i parts.length∧ds=parts.map (·.2)∧∀ d ∈ ds,∃ vs,d.cellsT g=some vs∧vs.length=n
 | i,[],ds,h=>by simp only [sliceParts,Option.some.injEq] at h;subst h;simp
 | i,(j,d)::r,ds,h=>by
  simp only [sliceParts] at h
  split at h
  ·rename_i e
   subst e
   simp only [Option.bind_eq_some_iff] at h
   obtain ⟨vs,hvs,h⟩:=h
   split at h
   ·rename_i hl
    simp only [Option.map_eq_some_iff] at h
    obtain ⟨ds',h,rfl⟩:=h
    obtain ⟨h1,h2,h3⟩:=sliceParts_spec h
    refine ⟨by simp [h1,List.range'_succ],by simp [h2],fun x hx=>?_⟩
    rcases List.mem_cons.1 hx with rfl|hx
    ·exact ⟨vs,hvs,hl⟩
    ·exact h3 x hx
   ·cases h
  ·cases h
theorem zip_idx {α:Type}:∀ (l:List (Nat×α)) (i:Nat),l.map (·.1)=List.range' i l.length→l=((l.map (·.2)).zipIdx i).map fun p=>(p.2,p.1)
 | [],_,_=>rfl
 | (j,x)::l,i,h=>by
  simp only [List.map_cons,List.length_cons,List.range'_succ,List.cons.injEq] at h
  obtain ⟨rfl,h⟩:=h
  simp only [List.map_cons,List.zipIdx_cons]
  rw [← zip_idx l _ h]
theorem row_of_cells {gh:Gh} {w:World} {b n:Nat}:∀ (ds:List D) (vs:List Value) (o:Nat),RepL gh w ds vs→(∀ v ∈ vs,VC n v) →
   (∀ j u,(vs.flatMap fun v=>v.cells.toList)[j]?=some u→gh.stab b (o+j)∧w.cell? ⟨b,o+j,none⟩=some u)→RepRow gh w b n ds o:=by
  intro ds
  induction ds with
  | nil=>intro vs o _ _ _;simp [RepRow]
  | cons d ds ih =>
   intro vs o hr hs hc
   simp only [RepL] at hr
   obtain ⟨v,r,rfl,h1,h2⟩:=hr
   have hvc:=hs v (by simp)
   have hvn:=hvc.1
   simp only [RepRow]
   refine ⟨⟨v,h1,hvc,fun j hj=>?_⟩,ih r (o+n) h2 (fun u hu=>hs u (by simp [hu])) fun j u hj=>?_⟩
   ·have hjl:j<v.cells.size:=by omega
    have:=hc j v.cells[j] (by
     simp only [List.flatMap_cons]
     rw [List.getElem?_append_left (by simpa using hjl)]
     simp)
    exact ⟨this.1,by rw [this.2];simp⟩
   ·have:=hc (n+j) u (by
     simp only [List.flatMap_cons]
     rw [List.getElem?_append_right (by simp [hvn])]
     simpa [hvn] using hj)
    rwa [← Nat.add_assoc] at this
theorem row_of_block {gh:Gh} {w:World} {b n:Nat} {ds:List D} {vs:List Value} (hr:RepL gh w ds vs) (hs:∀ v ∈ vs,VC n v)
  (hc:∀ j u,(vs.flatMap fun v=>v.cells.toList)[j]?=some u→gh.stab b j∧w.cell? ⟨b,j,none⟩=some u):RepRow gh w b n ds 0 :=
 row_of_cells ds vs 0 hr hs (fun j u hj=>by simpa using hc j u hj)
theorem RepRow.append {gh:Gh} {w:World} {b n:Nat}:∀ {ds es:List D} {o:Nat},RepRow gh w b n ds o→RepRow gh w b n es (o+ds.length * n)→RepRow gh w b n (ds++es) o
 | [],es,o,_,h=>by simpa using h
 | d::ds,es,o,h,k=>by
  simp only [RepRow] at h
  simp only [List.cons_append,RepRow]
  refine ⟨h.1,RepRow.append h.2 ?_⟩
  have e:o+n+ds.length * n=o+(d::ds).length * n:=by rw [List.length_cons,Nat.add_mul];omega
  rwa [e]
theorem flat_length {n:Nat}:∀ (vs:List Value),(∀ v ∈ vs,v.cells.size=n)→(vs.flatMap fun v=>v.cells.toList).length=vs.length * n
 | [],_=>by simp
 | v::vs,h=>by
  simp only [List.flatMap_cons,List.length_append,Array.length_toList,h v (by simp),flat_length vs fun u hu=>h u (by simp [hu]),List.length_cons,Nat.add_mul]
  omega
theorem buildSlice_sim {t:TypeId} {len:Nat} {parts:List (Nat×D)} {d:D} (h:buildSliceD P t len parts=some d) {A:St} {gh:Gh} {w:World} (I:Inv gh A w)
  {us:Array (Nat×Value)} (h1:parts.map (·.1)=us.toList.map (·.1)) (h2:RepL gh w (parts.map (·.2)) (us.toList.map (·.2))) :
  ∃ z w' g',(Instr.buildSlice t len us).run P w=.ok z w'∧Ext gh w g' w'∧Inv g' A w'∧Rep g' w' d z:=by
 simp only [buildSliceD,Option.bind_eq_some_iff] at h
 obtain ⟨⟨e,n,g⟩,he,h⟩:=h
 obtain ⟨hu,hn,hg,h0⟩:=elemOf_some he
 split at h
 ·rename_i hc
  obtain ⟨c1,c2,c3⟩:=hc
  simp only at c2 c3
  simp only [Option.map_eq_some_iff] at h
  obtain ⟨ds,hds,rfl⟩:=h
  obtain ⟨k1,k2,k3⟩:=sliceParts_spec hds
  obtain ⟨z0,hz0⟩:=Option.isSome_iff_exists.1 c3
  rw [← k2] at h2
  have hul:us.toList.length=len:=by
   have:=h2.length
   simp only [List.length_map] at this
   rw [← this,k2,List.length_map,c1]
  have hsz':∀ v ∈ us.toList.map (·.2),VC n v:=by
   intro v hv
   obtain ⟨i,hi⟩:=List.getElem?_of_mem hv
   have hlt:i<ds.length:=by rw [h2.length];exact (List.getElem?_eq_some_iff.1 hi).1
   obtain ⟨u,hu',hur⟩:=h2.get (List.getElem?_eq_getElem hlt)
   rw [hi] at hu'
   cases hu'
   obtain ⟨vs,hvs,hl⟩:=k3 ds[i] (List.getElem_mem hlt)
   obtain ⟨q1,q2⟩:=cellsT_rep' hvs hur
   have:=q1.length
   rw [hl] at this
   exact ⟨by simpa using this.symm,fun u hu=>oneCell_of q2 q1 u (by simpa using hu)⟩
  have hsz:∀ v ∈ us.toList.map (·.2),v.cells.size=n:=fun v hv=>(hsz' v hv).1
  have hidx:us.toList=((us.toList.map (·.2)).zipIdx 0).map fun p=>(p.2,p.1):=by
   refine zip_idx us.toList 0 ?_
   rw [← h1,k1,c1,hul]
  obtain ⟨init,hinit⟩:∃ init:Array Value,(if len * n=0 then (pure #[]:Sem (Array Value)) else do pure (← zeroValue e).cells).run P w=.ok init w:=by
   split
   ·exact ⟨_,rfl⟩
   ·exact ⟨z0.cells,by simp [tyZero_some hz0]⟩
  obtain ⟨c',f1,f2⟩:=fillSeq (us.toList.map (·.2)) 0 ((Array.range (len * n)).map (init[· % init.size]!)) hsz (by simp [hul])
  rw [← hidx] at f1
  simp only [Nat.zero_mul,List.take_zero,List.nil_append,Nat.zero_add,List.length_map,hul] at f2
  rw [List.drop_of_length_le (by simp),List.append_nil] at f2
  obtain ⟨g',E,I',S1,S2,S3,S4⟩:=I.alloc_stab c' e (0,0) c'.size
  refine ⟨.slice (some ⟨w.heap.size,0,none⟩) len len,_,g', ?_,E,I', ?_⟩
  ·have hbig:¬ (16777216<len * n):=by omega
   simp only [Instr.buildSlice,Sem.run_bind,run_underlying hu,Result.andThen_ok,tySize_some hn]
   rw [if_neg (by simpa using hbig)]
   split
   ·rename_i hz
    rw [if_pos hz] at hinit
    simp only [Sem.run_pure,Result.ok.injEq,and_true] at hinit
    subst hinit
    simp only [Sem.run_bind,Sem.run_pure,Result.andThen_ok,f1]
    simp [newRow]
   ·rename_i hz
    rw [if_neg hz] at hinit
    simp only [Sem.run_bind,tyZero_some hz0,Sem.run_pure,Result.andThen_ok,Result.ok.injEq,and_true] at hinit
    subst hinit
    simp only [Sem.run_bind,tyZero_some hz0,Sem.run_pure,Result.andThen_ok,f1]
    simp [newRow]
  ·simp only [Rep]
   have hdl:ds.length=len:=by rw [k2,List.length_map,c1]
   refine ⟨_,len,by rw [hdl],by omega,by simp [OwnOk,hdl],fun _=>⟨w.heap.size,0,rfl, ?_⟩⟩
   refine row_of_block (E.repL h2) hsz' fun j u hj=>?_
   have hj':c'[j]?=some u:=by rw [← f2] at hj;simpa using hj
   exact ⟨S1 j (Array.getElem?_eq_some_iff.1 hj').1,by simpa using hj'⟩
 ·cases h
end Go.Vm

/- make,[]byte(s),append. -/
namespace Go.Vm
open Go.RowKit
variable {P:Program}

theorem made_flat (z:Array Value) (hz:0<z.size):∀ c:Nat,(madeCells z (c * z.size)).toList=(List.replicate c z.toList).flatten
 | 0=>by simp [madeCells]
 | c+1=>by
  have ih:=made_flat z hz c
  simp only [madeCells,Array.toList_map,Array.toList_range] at ih ⊢
  rw [Nat.add_mul,Nat.one_mul,List.range_add,List.map_append,ih,List.replicate_succ',List.flatten_append,List.flatten_singleton]
  congr 1
  apply List.ext_getElem?
  intro j
  rw [List.map_map,List.getElem?_map]
  by_cases hj:j<z.size
  ·have:(c * z.size+j) % z.size=j:=by rw [Nat.mul_comm,Nat.mul_add_mod,Nat.mod_eq_of_lt hj]
   simp [this,hj]
  ·simp [hj]
theorem repL_flatten {gh:Gh} {w:World} {ds:List D} {vs:List Value} (h:RepL gh w ds vs):∀ c:Nat,RepL gh w (List.replicate c ds).flatten (List.replicate c vs).flatten
 | 0=>by simp [RepL]
 | c+1=>by simp only [List.replicate_succ,List.flatten_cons];exact h.append (repL_flatten h c)
theorem make_sim {t:TypeId} {l c d:D} {A A':St} (h:makeSliceD P t l c A=some (d,A')) {gh:Gh} {w:World} (I:Inv gh A w) {u v:Value} (hl:Rep gh w l u) (hc:Rep gh w c v) :
  ∃ z w' g',(Instr.makeSlice t u v).run P w=.ok z w'∧Ext gh w g' w'∧Inv g' A' w'∧Rep g' w' d z:=by
 simp only [makeSliceD,makeO,Option.bind_eq_some_iff] at h
 obtain ⟨⟨e,n,g⟩,he,b,hb,z,hz,⟨kl,l'⟩,hl',⟨kc,c'⟩,hc',h⟩:=h
 obtain ⟨hu,hn,hg,h0⟩:=elemOf_some he
 have:=int?_rep hl' hl
 subst this
 have:=int?_rep hc' hc
 subst this
 split at h
 ·rename_i hcond
  obtain ⟨c1,c2,c3,c4,c5,c6⟩:=hcond
  simp only at c1 c2 c3 c4 c5 c6 h
  obtain ⟨i,hi,hin⟩:∃ i,P.info? e=some i∧i.size=n:=by
   simp only [tySize,Option.map_eq_some_iff] at hn;exact hn
  have hib:i.bytes=b:=by simp only [tyBytes,hi,Option.map_some,Option.some.injEq] at hb;exact hb
  have hiz:i.zero=some z:=by simpa [tyZero,hi] using hz
  have hby:(i.bytes:Int) * c'≤281474976710656:=by
   have h1:c'.toNat * b≤140737488355328:=of_decide_eq_true c4
   have h2:(b:Int) * c'=((c'.toNat * b:Nat):Int):=by
    rw [Int.natCast_mul,Int.toNat_of_nonneg (by omega),Int.mul_comm]
   rw [hib,h2]
   omega
  have hrun:=run_make (P:=P) w t e i z hu hi hiz kl kc l' c' c1 c2 hby c3
  rw [hin] at hrun
  obtain ⟨E1,I1,ha,ho⟩:=I.alloc (madeCells z.cells (c'.toNat * n)) e (0,0)
  have hmc:(madeCells z.cells (c'.toNat * n)).size=c'.toNat * n:=size_madeCells _ _
  split at h
  ·rename_i hl0
   cases h
   subst hl0
   obtain ⟨E2,I2⟩:=I1.bind_new (.tok (some (w.heap.size,0,c'.toNat * n)) 0) (.tok 0) ⟨rfl,fun b e lim hr j h1 h2=>by
    cases hr
    refine ⟨⟨(madeCells z.cells (c'.toNat * n))[j], ?_⟩,by simp⟩
    rw [World.cell?_alloc_new,Array.getElem?_eq_getElem (by omega)]⟩ fun b off hown=>by
    obtain ⟨rfl,_,_⟩:=hown
    exact ⟨ha off,fun k hk=>ho k off hk⟩
   refine ⟨_,_,_,hrun,E1.trans E2,I2, ?_⟩
   simp only [Rep,List.length_nil]
   refine ⟨_,c'.toNat,rfl,Nat.zero_le _, ?_,fun hne=>absurd rfl hne⟩
   simp only [OwnOk]
   refine ⟨by simp [I.len],fun r q hm=>?_⟩
   rw [← I.len] at hm
   simp only [upd_same,Bind.tok.injEq] at hm
   obtain ⟨rfl,rfl⟩:=hm
   exact ⟨by simp,fun _=>.inr ⟨_,_,_,0,rfl,rfl,by simp,by simp⟩⟩
  ·split at h
   ·rename_i hl0 hlc
    cases h
    subst hlc
    have hzl:0<z.cells.size:=by omega
    have hz0:RepL gh w (z.cells.toList.map ofCell) z.cells.toList:=by
     have:=RepL.map (g:=gh) (w:=w) ofCell id z.cells.toList fun x _=>rep_ofCell gh w x
     simpa using this
    have hr:=repL_flatten hz0 l'.toNat
    have hfl:=made_flat z.cells hzl l'.toNat
    rw [c5] at hfl
    rw [← hfl] at hr
    have hone:∀ v ∈ madeCells z.cells (l'.toNat * n),v.oneCell'=true:=by
     intro v hv
     have hv':v ∈ (List.replicate l'.toNat z.cells.toList).flatten:=by rw [← hfl];simpa using hv
     obtain ⟨q,hq,hvq⟩:=List.mem_flatten.1 hv'
     rw [List.eq_of_mem_replicate hq] at hvq
     exact oneCell_of c6 hz0 v hvq
    obtain ⟨g',E,I',R,hmk⟩:=I.alloc_varM (madeCells z.cells (l'.toNat * n)) e _ hr hone
    refine ⟨_,_,g',hrun,E,I', ?_⟩
    simp only [Rep] at R ⊢
    obtain ⟨hk,a,ha',hm⟩:=R
    simp only [Value.pointer.injEq,Option.some.injEq] at ha'
    refine ⟨hk,some a,l'.toNat,by rw [ha'],⟨Nat.le_refl _,(fun e=>by cases e),by omega⟩,hm.1,fun b o q x hb=>?_⟩
    rw [hmk] at hb
    cases hb
    have e:((List.replicate l'.toNat (z.cells.toList.map ofCell)).flatten).length=l'.toNat * n:=by
     rw [hr.length];simpa using hmc
    rw [e]
    exact ⟨by omega,.inl (by rw [← ha']),fun _=>by omega⟩
   ·cases h
 ·cases h

theorem strBytes_rep (gh:Gh) (w:World) (s:List UInt8):RepL gh w (strBytes s) (s.map fun b=>Value.int .u8 b.toNat) :=
 RepL.map _ _ s fun b _=>by simp [Rep]
theorem vc_int (k:IntKind) (n:Int):VC 1 (.int k n):=⟨rfl,by simp [Value.cells,Value.oneCell']⟩
theorem flat_bytes (s:List UInt8):((s.map fun b=>Value.int .u8 b.toNat).flatMap fun v=>v.cells.toList)=s.map fun b=>Value.int .u8 b.toNat:=by
 have:=flat_ints .u8 (s.map fun b=>(b.toNat:Int))
 simpa [List.map_map,Function.comp_def] using this
theorem bytes_sim {s t:TypeId} {x d:D} (h:bytesConvD P s t x=some d) {A:St} {gh:Gh} {w:World} (I:Inv gh A w) {u:Value} (hx:Rep gh w x u) :
  ∃ z w' g',(convert s t u).run P w=.ok z w'∧Ext gh w g' w'∧Inv g' A w'∧Rep g' w' d z:=by
 simp only [bytesConvD,Option.bind_eq_some_iff] at h
 obtain ⟨us,hs,ut,ht,h⟩:=h
 split at h
 ·rename_i e
  simp only [Option.bind_eq_some_iff] at h
  obtain ⟨ue,he,h⟩:=h
  split at h
  ·simp only [bytesConvO,Option.map_eq_some_iff] at h
   obtain ⟨l,hl,rfl⟩:=h
   have:=str?_rep hl hx
   subst this
   have hrun:=run_bytes_of_string (P:=P) w s t e ⟨l.toArray⟩ hs ht he
   have hsz:(ByteArray.mk l.toArray).size=l.length:=by simp [ByteArray.size]
   obtain ⟨E0,I0⟩:=I.drew
   obtain ⟨g',E,I',S1,S2,S3,S4⟩:=I0.alloc_stab (bytesRow ⟨l.toArray⟩ (grownCap w (ByteArray.mk l.toArray).size 0 e)) e
    ((bytesRow ⟨l.toArray⟩ (grownCap w (ByteArray.mk l.toArray).size 0 e)).size,(bytesRow ⟨l.toArray⟩ (grownCap w (ByteArray.mk l.toArray).size 0 e)).size+1) l.length
   refine ⟨_,_,g',hrun,E0.trans E,I', ?_⟩
   simp only [Rep]
   refine ⟨_,grownCap w (ByteArray.mk l.toArray).size 0 e,by simp [strBytes,hsz], ?_,trivial,fun _=>⟨w.heap.size,0,rfl, ?_⟩⟩
   ·have:=grownCap_ge w (ByteArray.mk l.toArray).size 0 e
    rw [hsz] at this
    simpa [strBytes,hsz] using this
   ·refine row_of_block (strBytes_rep g' _ l) (fun v hv=>?_) fun j u hj=>?_
    ·obtain ⟨b,_,rfl⟩:=List.mem_map.1 hv
     exact vc_int _ _
    ·rw [flat_bytes] at hj
     have hjl:j<l.length:=by have:=(List.getElem?_eq_some_iff.1 hj).1;simpa using this
     refine ⟨S1 j hjl, ?_⟩
     have:w.heap.size=w.drew.heap.size:=rfl
     rw [this,World.cell?_alloc_mark]
     simp only [bytesRow]
     rw [Array.getElem?_append_left (by simpa using hjl)]
     simpa using hj
  ·cases h
 ·cases h
end Go.Vm
