/- Tokens laid by hint; all world operations together. -/
import Derived.Test.YtagmpieoalkneaaGreatDoorVmAppend2
import Derived.Test.YtagmpieoalkneaaGreatDoorVmLit
import Derived.Test.YtagmpieoalkneaaGreatDoorVmLit
set_option linter.all false
namespace Go.Vm
open Go.RowKit
variable {P:Program}

theorem tokCell_sim (es:Nat) {d:D} {A:St} {gh:Gh} {w:World} (I:Inv gh A w) {v:Value} (hr:Rep gh w d v) :
  ∃ g',Ext gh w g' w∧Inv g' (tokCell es d A).2 w∧Rep g' w (tokCell es d A).1 v:=by
 unfold tokCell
 split
 ·rename_i es' ds
  simp only [Rep] at hr
  obtain ⟨a,cap,rfl,hc,ho,hrow⟩:=hr
  simp only [OwnOk] at ho
  cases hc0:(ds.isEmpty && Nat.ble 1000000 es) with
  | true =>
   simp only [Bool.and_eq_true,List.isEmpty_iff] at hc0
   obtain ⟨rfl,_⟩:=hc0
   obtain ⟨E,I'⟩:=I.bind_new (.var 0 0 0 0) (.cells []) ⟨⟨rfl,fun hp=>absurd hp (by omega),fun j h1 h2=>by omega⟩,fun j d hj=>by simp at hj⟩ fun b off h=>by
    obtain ⟨_,h⟩:=h
    omega
   refine ⟨_,E,I', ?_⟩
   simp only [cond_true,Rep]
   simp only [List.length_nil] at ho
   subst ho
   refine ⟨by simp [I.len],a,0,rfl,⟨Nat.le_refl _,by simp,by omega⟩,by rw [← I.len];simp,fun b o n x hm=>?_⟩
   rw [← I.len] at hm
   simp only [upd_same,Bind.var.injEq] at hm
   obtain ⟨rfl,rfl,rfl,rfl⟩:=hm
   exact ⟨by omega,.inr ⟨rfl,rfl⟩,fun _=>by omega⟩
  | false =>
  simp only [cond_false]
  obtain ⟨E,I'⟩:=I.bind_new (.tok none ds.length) (.tok ds.length) ⟨rfl,fun b e lim h=>by cases h⟩ fun b off h=>h.elim
  refine ⟨_,E,I', ?_⟩
  simp only [Rep]
  refine ⟨a,cap,rfl,hc, ?_,fun hne=>?_⟩
  ·simp only [OwnOk]
   refine ⟨by simp [I.len],fun r q hm=>?_⟩
   rw [← I.len] at hm
   simp only [upd_same,Bind.tok.injEq] at hm
   obtain ⟨rfl,rfl⟩:=hm
   exact ⟨by simp,fun _=>.inl ho⟩
  ·obtain ⟨b,off,rfl,h⟩:=hrow hne
   rw [if_neg (by simpa using hne)]
   exact ⟨b,off,rfl,E.repRow h⟩
 ·exact ⟨gh,Ext.refl _ _,I,hr⟩
theorem tokCells_sim:∀ (hs:List (Nat×Nat)) (cs:List D) (vs:List Value) {A:St} {gh:Gh} {w:World} (I:Inv gh A w) (hr:RepL gh w cs vs),
  ∃ g',Ext gh w g' w∧Inv g' (tokCells hs cs A).2 w∧RepL g' w (tokCells hs cs A).1 vs
 | [],cs,vs,A,gh,w,I,hr=>⟨gh,Ext.refl _ _,I,hr⟩
 | (off,es)::r,cs,vs,A,gh,w,I,hr=>by
  simp only [tokCells]
  have hget:∃ v,Rep gh w (cs.getD off .any) v∧(∀ u,vs[off]?=some u→u=v):=by
   cases hd:cs[off]? with
   | none =>
    refine ⟨.nilFunc,by simp [List.getD,hd,Rep],fun u hu=>?_⟩
    have h1:=(List.getElem?_eq_some_iff.1 hu).1
    rw [← hr.length] at h1
    simp at hd
    omega
   | some d =>
    obtain ⟨v,hv,hrv⟩:=hr.get hd
    refine ⟨v,by simpa [List.getD,hd] using hrv,fun u hu=>?_⟩
    rw [hv] at hu;cases hu;rfl
  obtain ⟨v,hv,hvs⟩:=hget
  obtain ⟨g1,E1,I1,R1⟩:=tokCell_sim es I hv
  have hset:vs.set off v=vs:=by
   apply List.ext_getElem?
   intro j
   rw [List.getElem?_set]
   split
   ·rename_i e
    subst e
    split
    ·rename_i h
     have:=hvs _ (List.getElem?_eq_getElem h)
     rw [List.getElem?_eq_getElem h,this]
    ·rename_i h
     simp at h
     simp [h]
   ·rfl
  have hr1:=(E1.repL hr).set R1 off
  rw [hset] at hr1
  obtain ⟨g2,E2,I2,R2⟩:=tokCells_sim r _ vs I1 hr1
  exact ⟨g2,E1.trans E2,I2,R2⟩
theorem tokCells_len:∀ (hs:List (Nat×Nat)) (cs:List D) (A:St),(tokCells hs cs A).1.length=cs.length
 | [],cs,A=>rfl
 | (off,es)::r,cs,A=>by simp only [tokCells];rw [tokCells_len];simp
theorem tokCell_keep (es:Nat) (d:D) (A:St) (k:Nat) (s:Slot) (h:A[k]?=some s):(tokCell es d A).2[k]?=some s:=by
 unfold tokCell
 split
 ·rename_i es' ds
  cases (ds.isEmpty && Nat.ble 1000000 es) with
  | true=>simp only [cond_true];rw [List.getElem?_append_left (List.getElem?_eq_some_iff.1 h).1];exact h
  | false=>simp only [cond_false];rw [List.getElem?_append_left (List.getElem?_eq_some_iff.1 h).1];exact h
 ·exact h
theorem tokCells_keep:∀ (hs:List (Nat×Nat)) (cs:List D) (A:St) (k:Nat) (s:Slot),A[k]?=some s→(tokCells hs cs A).2[k]?=some s
 | [],cs,A,k,s,h=>h
 | (off,es)::r,cs,A,k,s,h=>by simp only [tokCells];exact tokCells_keep r _ _ k s (tokCell_keep es _ A k s h)
theorem tokD_sim (hs:List (Nat×Nat)) {d:D} {A:St} {gh:Gh} {w:World} (I:Inv gh A w) {v:Value} (hr:Rep gh w d v) :
  ∃ g',Ext gh w g' w∧Inv g' (tokD hs d A).2 w∧Rep g' w (tokD hs d A).1 v:=by
 unfold tokD
 split
 ·exact ⟨gh,Ext.refl _ _,I,hr⟩
 ·rename_i x es r
  split
  ·rename_i cs
   simp only [Rep] at hr
   obtain ⟨vs,rfl,hr⟩:=hr
   obtain ⟨g',E,I',R⟩:=tokCells_sim ((x,es)::r) cs _ I hr
   refine ⟨g',E,I', ?_⟩
   simp only [Rep]
   exact ⟨vs,rfl,R⟩
  ·rename_i k
   split
   ·rename_i cs hk
    have hkl:k<gh.len:=I.len ▸ (List.getElem?_eq_some_iff.1 hk).1
    have hsl:=I.slot k _ hk
    cases hbd:gh.m k with
    | none=>rw [hbd] at hsl;exact hsl.elim
    | obj l=>rw [hbd] at hsl;exact hsl.elim
    | wait =>
     simp only [Rep] at hr
     obtain ⟨_,p,_,hp,_⟩:=hr
     exact absurd hbd hp
    | tok q n=>rw [hbd] at hsl;exact hsl.elim
    | var b o n z =>
     rw [hbd] at hsl
     obtain ⟨⟨rfl,hxc⟩,hsl⟩:=hsl
     obtain ⟨vs,h1,h2⟩:=exists_cells (gh:=gh) (w:=w) (b:=b) cs o fun i d hi=>by
      obtain ⟨v,k1,_,_,k4⟩:=hsl i d hi
      exact ⟨v,k1,k4⟩
     obtain ⟨g1,E1,I1,R1⟩:=tokCells_sim ((x,es)::r) cs vs I h1
     have hk1:k<g1.len:=Nat.lt_of_lt_of_le hkl E1.len
     have hbd1:g1.m k=.var b o cs.length z:=by
      rcases E1.bind k hkl with h|h|⟨r1,n1,r2,n2,h1,_,_⟩
      ·rw [h,hbd]
      ·have:=I1.slot k _ (tokCells_keep _ _ _ _ _ hk)
       rw [h.2] at this
       exact this.elim
      ·rw [hbd] at h1;cases h1
     obtain ⟨E2,I2⟩:=I1.bind_set k hk1 (.var b o cs.length z) (.cells (tokCells ((x,es)::r) cs A).1) (by
      refine ⟨⟨(tokCells_len _ _ _).symm,hxc⟩,fun j d hj=>?_⟩
      obtain ⟨v,hv,hrv⟩:=R1.get hj
      have hjl:j<cs.length:=by rw [← tokCells_len ((x,es)::r) cs A];exact (List.getElem?_eq_some_iff.1 hj).1
      obtain ⟨v',q1,q2,q3,_⟩:=hsl j cs[j] (List.getElem?_eq_getElem hjl)
      have hcell:=h2 j v hv
      rw [q1] at hcell
      cases hcell
      exact ⟨_,q1,q2,q3,hrv⟩) (by rw [hbd1];exact BindLe.refl _) fun b' off ho=>by
       rw [← hbd1] at ho
       exact ⟨I1.own k b' off hk1 ho,fun j hj hne ho'=>hne (I1.sep j k b' off hj hk1 ho' ho)⟩
     exact ⟨_,E1.trans E2,I2,(E1.trans E2).rep hr⟩
   ·exact ⟨gh,Ext.refl _ _,I,hr⟩
  ·exact tokCell_sim es I hr

def NextOk (gh:Gh) (w:World) (d:D):Next→Prop
 | .value z=>Rep gh w d z
 | .skip=>d=undefD
 | _=>False
theorem world_sim {o:Oper} {e:List D} {a:Act} {d:D} {A A':St} (h:worldD P e o.op A=some (d,A')) {gh:Gh} {w:World} (I:Inv gh A w) (he:RepL gh w e a.tmps.toList) :
  ∃ nx w' g',(execOp a.eval o).run P w=.ok nx w'∧NextOk g' w' d nx∧Ext gh w g' w'∧Inv g' A' w':=by
 have ev:=fun x=>rep_eval he x
 obtain ⟨dst,op,type,pos,after,guard⟩:=o
 cases op<;>simp only [worldD,mapD,reduceCtorEq] at h
 case load t x =>
  simp only [Option.map_eq_some_iff,Prod.mk.injEq] at h
  obtain ⟨d',h,rfl,rfl⟩:=h
  obtain ⟨v,h1,h2⟩:=load_sim h I (ev x)
  exact ⟨.value v,w,gh,by simp [execOp,h1],h2,Ext.refl _ _,I⟩
 case store t x y =>
  simp only [Option.map_eq_some_iff,Prod.mk.injEq] at h
  obtain ⟨A1,h,rfl,rfl⟩:=h
  obtain ⟨w',h1,h2,h3⟩:=store_sim h I (ev x) (ev y)
  exact ⟨.skip,w',gh,by simp [execOp,h1],rfl,h2,h3⟩
 case alloc t =>
  simp only [Option.bind_eq_some_iff] at h
  obtain ⟨z,hz,h⟩:=h
  split at h
  ·rename_i hall
   simp only [Option.some.injEq] at h
   have hz0:RepL gh w (z.cells.toList.map ofCell) z.cells.toList:=by
    have:=RepL.map (g:=gh) (w:=w) ofCell id z.cells.toList fun x _=>rep_ofCell gh w x
    simpa using this
   obtain ⟨w',g',h1,h2,h3,h4⟩:=box_sim (P:=P) (elem:=t) (A:=A) I hz0 hall
   rw [h] at h3 h4
   refine ⟨.value _,w',g', ?_,h4,h2,h3⟩
   simp [execOp,Instr.alloc,tyZero_some hz,h1]
  ·cases h
 case box t x =>
  simp only [boxO,Option.bind_eq_some_iff,Option.map_eq_some_iff] at h
  obtain ⟨g,hg,cs,hcs,h⟩:=h
  obtain ⟨q1,q2⟩:=cellsT_rep' hcs (ev x)
  obtain ⟨w',g',h1,h2,h3,h4⟩:=box_sim (P:=P) (elem:=t) (A:=A) I q1 q2
  rw [h] at h3 h4
  exact ⟨.value _,w',g',by simp [execOp,Instr.box,h1],h4,h2,h3⟩
 case buildSlice t n ps =>
  simp only [Option.map_eq_some_iff,Prod.mk.injEq] at h
  obtain ⟨d',h,rfl,rfl⟩:=h
  obtain ⟨z,w',g',h1,h2,h3,h4⟩:=buildSlice_sim h I (us:=ps.map fun (i,x)=>(i,a.eval x)) (by simp [List.map_map,Function.comp_def]) (by
   have:=RepL.map (g:=gh) (w:=w) (fun p:Nat×Operand=>evalO e p.2) (fun p=>a.eval p.2) ps.toList fun p _=>ev p.2
   simpa [List.map_map,Function.comp_def] using this)
  exact ⟨.value z,w',g',by simp only [execOp,Sem.run_bind,h1];rfl,h4,h2,h3⟩
 case convert s t x =>
  simp only [Option.map_eq_some_iff,Prod.mk.injEq] at h
  obtain ⟨d',h,rfl,rfl⟩:=h
  obtain ⟨z,w',g',h1,h2,h3,h4⟩:=bytes_sim h I (ev x)
  exact ⟨.value z,w',g',by simp only [execOp,Sem.run_bind,h1];rfl,h4,h2,h3⟩
 case makeSlice t l c =>
  obtain ⟨z,w',g',h1,h2,h3,h4⟩:=make_sim h I (ev l) (ev c)
  exact ⟨.value z,w',g',by simp only [execOp,Sem.run_bind,h1];rfl,h4,h2,h3⟩
 case makeMap t r =>
  simp only [Option.bind_eq_some_iff,Option.map_eq_some_iff] at h
  obtain ⟨q,hq,kt,hkt,oi,hoi,h⟩:=h
  have hu:=tyMap_some hq
  obtain ⟨v,w',g',h1,h2,h3,h4⟩:=makeMap_sim (P:=P) (kt:=kt) (hv:=r.map a.eval) (fun _=>⟨_,_,hu⟩) ⟨_,_,hu⟩ (by
   intro v hv
   cases r with
   | none=>cases hv
   | some r =>
    simp only [Option.map_some,Option.some.injEq] at hv
    subst hv
    simp only [optInt,Option.map_some,Option.map_eq_some_iff] at hoi
    obtain ⟨p,hp,_⟩:=hoi
    have hr:=ev r
    generalize evalO e r=y at hp hr
    cases y<;>simp [D.int?] at hp
    exact ⟨_,_,hr⟩) I
  simp only [makeMapO,Prod.mk.injEq] at h
  obtain ⟨rfl,rfl⟩:=h
  exact ⟨.value v,w',g',by simp only [execOp,Sem.run_bind,h1];rfl,h2,h3,h4⟩
 case lookup t m k ok =>
  simp only [Option.bind_eq_some_iff,Option.map_eq_some_iff,Prod.mk.injEq] at h
  obtain ⟨q,hq,kt,hkt,z,hz,d',hd,rfl,rfl⟩:=h
  obtain ⟨v,h1,h2⟩:=lookup_sim hq hkt hz hd I (ev m) (ev k)
  exact ⟨.value v,w,gh,by simp only [execOp,Sem.run_bind,h1];rfl,h2,Ext.refl _ _,I⟩
 case mapUpdate t m k x =>
  simp only [Option.bind_eq_some_iff] at h
  obtain ⟨q,hq,kt,hkt,h⟩:=h
  obtain ⟨w',h1,rfl,h2,h3⟩:=put_sim hq hkt h I (ev m) (ev k) (ev x)
  exact ⟨.skip,w',gh,by simp only [execOp,Sem.run_bind,h1];rfl,rfl,h2,h3⟩
 case insert t m k x =>
  simp only [Option.bind_eq_some_iff] at h
  obtain ⟨q,hq,kt,hkt,h⟩:=h
  obtain ⟨w',h1,rfl,h2,h3⟩:=put_sim hq hkt h I (ev m) (ev k) (ev x)
  exact ⟨.skip,w',gh,by simp only [execOp,Sem.run_bind,h1];rfl,rfl,h2,h3⟩
 case mapEntry t m k =>
  simp only [Option.bind_eq_some_iff] at h
  obtain ⟨q,hq,kt,hkt,z,hz,h⟩:=h
  obtain ⟨v,w',h1,h2,h3,h4⟩:=entry_sim hq hkt hz h I (ev m) (ev k)
  exact ⟨.value v,w',gh,by simp only [execOp,Sem.run_bind,h1];rfl,h2,h3,h4⟩
 case entryStore t m s x =>
  obtain ⟨w',h1,rfl,h2,h3⟩:=stamp_sim (t:=t) (P:=P) h I (ev m) (ev s) (ev x)
  exact ⟨.skip,w',gh,by simp only [execOp,Sem.run_bind,h1];rfl,rfl,h2,h3⟩
 case call c =>
  obtain ⟨callee,args,argTypes⟩:=c
  cases callee<;>(try (simp only [mapD,reduceCtorEq] at h;done))
  rename_i b
  cases b<;>(try (simp only [mapD,reduceCtorEq] at h;done))
  case append =>
   simp only at h
   split at h
   ·rename_i x y hxy
    obtain ⟨z,w',g',h1,h2,h3,h4⟩:=append_sim h I (ev x) (ev y) type
    refine ⟨.value z,w',g', ?_,h4,h2,h3⟩
    have e1:args=#[x,y]:=by rw [← Array.toArray_toList (xs:=args),hxy]
    subst e1
    simp only [execOp,resolve,invoke,Sem.run_bind,Sem.run_pure,Result.andThen_ok,builtin,List.map_toArray,List.map_cons,List.map_nil,h1]
   ·cases h
  case delete =>
   simp only at h
   split at h
   ·rename_i x y t r hxy hts
    simp only [Option.bind_eq_some_iff] at h
    obtain ⟨q,hq,kt,hkt,h⟩:=h
    obtain ⟨v,w',h1,h2,h3,h4⟩:=del_sim hq hkt h I (ev x) (ev y) (ts:=argTypes) (by rw [← Array.getElem?_toList,hts];rfl) type
    refine ⟨.value v,w',gh, ?_,h2,h3,h4⟩
    have e1:args=#[x,y]:=by rw [← Array.toArray_toList (xs:=args),hxy]
    subst e1
    simp only [execOp,resolve,invoke,Sem.run_bind,Sem.run_pure,Result.andThen_ok,builtin,List.map_toArray,List.map_cons,List.map_nil,h1]
   ·cases h
  case len =>
   simp only at h
   split at h
   ·rename_i x hxy
    simp only [Option.bind_eq_some_iff,Option.map_eq_some_iff,Prod.mk.injEq] at h
    obtain ⟨q,hq,d',h,rfl,rfl⟩:=h
    obtain ⟨t,hts,ht⟩:∃ t,argTypes[0]?=some t∧tyMap P t=some q:=by
     unfold mapTy at hq
     split at hq
     ·rename_i t r hts
      exact ⟨t,by rw [← Array.getElem?_toList,hts];rfl,hq⟩
     ·cases hq
    obtain ⟨v,h1,h2⟩:=len_map_sim (tyMap_some ht) h I (ev x) hts type
    refine ⟨.value v,w,gh, ?_,h2,Ext.refl _ _,I⟩
    have e1:args=#[x]:=by rw [← Array.toArray_toList (xs:=args),hxy]
    subst e1
    simp only [execOp,resolve,invoke,Sem.run_bind,Sem.run_pure,Result.andThen_ok,builtin,List.map_toArray,List.map_cons,List.map_nil,h1]
   ·cases h
theorem worldH_sim {hh:List (Nat×Nat)} {o:Oper} {e:List D} {a:Act} {d:D} {A A':St} (h:worldH P hh e o.op A=some (d,A')) {gh:Gh} {w:World} (I:Inv gh A w) (he:RepL gh w e a.tmps.toList) :
  ∃ nx w' g',(execOp a.eval o).run P w=.ok nx w'∧NextOk g' w' d nx∧Ext gh w g' w'∧Inv g' A' w':=by
 unfold worldH at h
 split at h
 ·rename_i t n ps _ hop
  obtain ⟨dst,op,type,pos,after,guard⟩:=o
  simp only at hop
  subst hop
  have ev:=fun x=>rep_eval he x
  obtain ⟨z,w',g',h1,h2,h3,h4⟩:=lit_sim h I (us:=ps.map fun (i,x)=>(i,a.eval x)) (by simp [List.map_map,Function.comp_def]) (by
   have:=RepL.map (g:=gh) (w:=w) (fun p:Nat×Operand=>evalO e p.2) (fun p=>a.eval p.2) ps.toList fun p _=>ev p.2
   simpa [List.map_map,Function.comp_def] using this)
  exact ⟨.value z,w',g',by simp only [execOp,Sem.run_bind,h1];rfl,h4,h2,h3⟩
 ·exact world_sim h I he
end Go.Vm
