/- VmLit, VmTok in one text. -/
import Derived.Test.YtagmpieoalkneaaGreatDoorVmAppend2
set_option linter.all false
/- A literal slice,laid as a variable. -/
namespace Go.Vm
open Go.RowKit
variable {P : Program}
theorem lit_sim {t : TypeId} {len : Nat} {parts : List (Nat × D)} {d : D} {A A' : St} (h : litD P t len parts A = some (d,A')) {gh : Gh} {w : World} (I : Inv gh A w)
    {us : Array (Nat × Value)} (h1 : parts.map (·.1) = us.toList.map (·.1)) (h2 : RepL gh w (parts.map (·.2)) (us.toList.map (·.2))) :
    ∃ z w' g',(Instr.buildSlice t len us).run P w = .ok z w' ∧ Ext gh w g' w' ∧ Inv g' A' w' ∧ Rep g' w' d z:=by
  simp only [litD,Option.bind_eq_some_iff] at h
  obtain ⟨⟨e,n,g⟩,he,h⟩:=h
  obtain ⟨hu,hn,hg,h0⟩:=elemOf_some he
  split at h
  · rename_i hc
    obtain ⟨c1,c2,c3⟩:=hc
    simp only at c2 c3
    simp only [litO,Option.bind_eq_some_iff,Option.map_eq_some_iff,Prod.mk.injEq] at h
    obtain ⟨ds,hds,cs,hcs,rfl,rfl⟩:=h
    obtain ⟨k1,k2,k3⟩:=sliceParts_spec hds
    obtain ⟨z0,hz0⟩:=Option.isSome_iff_exists.1 c3
    rw [← k2] at h2
    have hul : us.toList.length = len:=by
      have:=h2.length
      simp only [List.length_map] at this
      rw [← this,k2,List.length_map,c1]
    have hsz' : ∀ v ∈ us.toList.map (·.2),VC n v:=by
      intro v hv
      obtain ⟨i,hi⟩:=List.getElem?_of_mem hv
      have hlt : i < ds.length:=by rw [h2.length]; exact (List.getElem?_eq_some_iff.1 hi).1
      obtain ⟨u,hu',hur⟩:=h2.get (List.getElem?_eq_getElem hlt)
      rw [hi] at hu'
      cases hu'
      obtain ⟨vs,hvs,hl⟩:=k3 ds[i] (List.getElem_mem hlt)
      obtain ⟨q1,q2⟩:=cellsT_rep' hvs hur
      have:=q1.length
      rw [hl] at this
      exact ⟨by simpa using this.symm,fun u hu => oneCell_of q2 q1 u (by simpa using hu)⟩
    have hsz : ∀ v ∈ us.toList.map (·.2),v.cells.size = n:=fun v hv => (hsz' v hv).1
    have hidx : us.toList = ((us.toList.map (·.2)).zipIdx 0).map fun p => (p.2,p.1):=by
      refine zip_idx us.toList 0 ?_
      rw [← h1,k1,c1,hul]
    obtain ⟨init,hinit⟩ : ∃ init : Array Value,(if len * n = 0 then (pure #[] : Sem (Array Value)) else do pure (← zeroValue e).cells).run P w = .ok init w:=by
      split
      · exact ⟨_,rfl⟩
      · exact ⟨z0.cells,by simp [tyZero_some hz0]⟩
    obtain ⟨c',f1,f2⟩:=fillSeq (us.toList.map (·.2)) 0 ((Array.range (len * n)).map (init[· % init.size]!)) hsz (by simp [hul])
    rw [← hidx] at f1
    simp only [Nat.zero_mul,List.take_zero,List.nil_append,Nat.zero_add,List.length_map,hul] at f2
    rw [List.drop_of_length_le (by simp),List.append_nil] at f2
    obtain ⟨q1,q2,q3⟩:=newCells_rep hcs h2
    have hcl : (us.toList.map (·.2)).flatMap (fun v => v.cells.toList) = c'.toList:=f2.symm
    rw [hcl] at q1
    have h1c : ∀ v ∈ c',v.oneCell' = true:=fun v hv => by
      have : v ∈ (us.toList.map (·.2)).flatMap (fun v => v.cells.toList):=by rw [hcl]; simpa using hv
      obtain ⟨u,hu1,hu2⟩:=List.mem_flatMap.1 this
      exact (hsz' u hu1).2 v (by simpa using hu2)
    obtain ⟨g',E,I',_,hmA⟩:=I.alloc_varM c' e cs q1 h1c
    have hdl : ds.length = len:=by rw [k2,List.length_map,c1]
    refine ⟨.slice (some ⟨w.heap.size,0,none⟩) len len,_,g', ?_,E,I', ?_⟩
    · have hbig : ¬ (16777216 < len * n):=by omega
      simp only [Instr.buildSlice,Sem.run_bind,run_underlying hu,Result.andThen_ok,tySize_some hn]
      rw [if_neg (by simpa using hbig)]
      split
      · rename_i hz
        rw [if_pos hz] at hinit
        simp only [Sem.run_pure,Result.ok.injEq,and_true] at hinit
        subst hinit
        simp only [Sem.run_bind,Sem.run_pure,Result.andThen_ok,f1]
        simp [newRow]
      · rename_i hz
        rw [if_neg hz] at hinit
        simp only [Sem.run_bind,tyZero_some hz0,Sem.run_pure,Result.andThen_ok,Result.ok.injEq,and_true] at hinit
        subst hinit
        simp only [Sem.run_bind,tyZero_some hz0,Sem.run_pure,Result.andThen_ok,f1]
        simp [newRow]
    · simp only [Rep]
      refine ⟨by rw [I'.len]; simp,_,len,rfl,⟨Nat.le_refl _,(fun h => by cases h),by
        have h1 : len ≤ len * n:=Nat.le_mul_of_pos_right _ (Nat.pos_of_ne_zero h0)
        omega⟩,by rw [hmA]; simp,fun b o n' x hm => ?_⟩
      rw [hmA] at hm
      cases hm
      rw [q2,hdl]
      exact ⟨by omega,.inl rfl,fun _ => by omega⟩
  · cases h
end Go.Vm

/- Tokens laid by hint; all world operations together. -/
namespace Go.Vm
open Go.RowKit
variable {P : Program}

theorem tokCell_sim (es : Nat) {d : D} {A : St} {gh : Gh} {w : World} (I : Inv gh A w) {v : Value} (hr : Rep gh w d v) :
    ∃ g',Ext gh w g' w ∧ Inv g' (tokCell es d A).2 w ∧ Rep g' w (tokCell es d A).1 v:=by
  unfold tokCell
  split
  · rename_i es' ds
    simp only [Rep] at hr
    obtain ⟨a,cap,rfl,hc,ho,hrow⟩:=hr
    simp only [OwnOk] at ho
    cases hc0 : (ds.isEmpty && Nat.ble 1000000 es) with
    | true =>
      simp only [Bool.and_eq_true,List.isEmpty_iff] at hc0
      obtain ⟨rfl,_⟩:=hc0
      obtain ⟨E,I'⟩:=I.bind_new (.var 0 0 0 0) (.cells []) ⟨⟨rfl,fun hp => absurd hp (by omega),fun j h1 h2 => by omega⟩,fun j d hj => by simp at hj⟩ fun b off h => by
        obtain ⟨_,h⟩:=h
        omega
      refine ⟨_,E,I', ?_⟩
      simp only [cond_true,Rep]
      simp only [List.length_nil] at ho
      subst ho
      refine ⟨by simp [I.len],a,0,rfl,⟨Nat.le_refl _,by simp,by omega⟩,by rw [← I.len]; simp,fun b o n x hm => ?_⟩
      rw [← I.len] at hm
      simp only [upd_same,Bind.var.injEq] at hm
      obtain ⟨rfl,rfl,rfl,rfl⟩:=hm
      exact ⟨by omega,.inr ⟨rfl,rfl⟩,fun _ => by omega⟩
    | false =>
    simp only [cond_false]
    obtain ⟨E,I'⟩:=I.bind_new (.tok none ds.length) (.tok ds.length) ⟨rfl,fun b e lim h => by cases h⟩ fun b off h => h.elim
    refine ⟨_,E,I', ?_⟩
    simp only [Rep]
    refine ⟨a,cap,rfl,hc, ?_,fun hne => ?_⟩
    · simp only [OwnOk]
      refine ⟨by simp [I.len],fun r q hm => ?_⟩
      rw [← I.len] at hm
      simp only [upd_same,Bind.tok.injEq] at hm
      obtain ⟨rfl,rfl⟩:=hm
      exact ⟨by simp,fun _ => .inl ho⟩
    · obtain ⟨b,off,rfl,h⟩:=hrow hne
      rw [if_neg (by simpa using hne)]
      exact ⟨b,off,rfl,E.repRow h⟩
  · exact ⟨gh,Ext.refl _ _,I,hr⟩
theorem tokCells_sim : ∀ (hs : List (Nat × Nat)) (cs : List D) (vs : List Value) {A : St} {gh : Gh} {w : World} (I : Inv gh A w) (hr : RepL gh w cs vs),
    ∃ g',Ext gh w g' w ∧ Inv g' (tokCells hs cs A).2 w ∧ RepL g' w (tokCells hs cs A).1 vs
  | [],cs,vs,A,gh,w,I,hr => ⟨gh,Ext.refl _ _,I,hr⟩
  | (off,es) :: r,cs,vs,A,gh,w,I,hr => by
    simp only [tokCells]
    have hget : ∃ v,Rep gh w (cs.getD off .any) v ∧ (∀ u,vs[off]? = some u → u = v):=by
      cases hd : cs[off]? with
      | none =>
        refine ⟨.nilFunc,by simp [List.getD,hd,Rep],fun u hu => ?_⟩
        have h1:=(List.getElem?_eq_some_iff.1 hu).1
        rw [← hr.length] at h1
        simp at hd
        omega
      | some d =>
        obtain ⟨v,hv,hrv⟩:=hr.get hd
        refine ⟨v,by simpa [List.getD,hd] using hrv,fun u hu => ?_⟩
        rw [hv] at hu; cases hu; rfl
    obtain ⟨v,hv,hvs⟩:=hget
    obtain ⟨g1,E1,I1,R1⟩:=tokCell_sim es I hv
    have hset : vs.set off v = vs:=by
      apply List.ext_getElem?
      intro j
      rw [List.getElem?_set]
      split
      · rename_i e
        subst e
        split
        · rename_i h
          have:=hvs _ (List.getElem?_eq_getElem h)
          rw [List.getElem?_eq_getElem h,this]
        · rename_i h
          simp at h
          simp [h]
      · rfl
    have hr1:=(E1.repL hr).set R1 off
    rw [hset] at hr1
    obtain ⟨g2,E2,I2,R2⟩:=tokCells_sim r _ vs I1 hr1
    exact ⟨g2,E1.trans E2,I2,R2⟩
theorem tokCells_len : ∀ (hs : List (Nat × Nat)) (cs : List D) (A : St),(tokCells hs cs A).1.length = cs.length
  | [],cs,A => rfl
  | (off,es) :: r,cs,A => by simp only [tokCells]; rw [tokCells_len]; simp
theorem tokCell_keep (es : Nat) (d : D) (A : St) (k : Nat) (s : Slot) (h : A[k]? = some s) : (tokCell es d A).2[k]? = some s:=by
  unfold tokCell
  split
  · rename_i es' ds
    cases (ds.isEmpty && Nat.ble 1000000 es) with
    | true => simp only [cond_true]; rw [List.getElem?_append_left (List.getElem?_eq_some_iff.1 h).1]; exact h
    | false => simp only [cond_false]; rw [List.getElem?_append_left (List.getElem?_eq_some_iff.1 h).1]; exact h
  · exact h
theorem tokCells_keep : ∀ (hs : List (Nat × Nat)) (cs : List D) (A : St) (k : Nat) (s : Slot),A[k]? = some s → (tokCells hs cs A).2[k]? = some s
  | [],cs,A,k,s,h => h
  | (off,es) :: r,cs,A,k,s,h => by simp only [tokCells]; exact tokCells_keep r _ _ k s (tokCell_keep es _ A k s h)
theorem tokD_sim (hs : List (Nat × Nat)) {d : D} {A : St} {gh : Gh} {w : World} (I : Inv gh A w) {v : Value} (hr : Rep gh w d v) :
    ∃ g',Ext gh w g' w ∧ Inv g' (tokD hs d A).2 w ∧ Rep g' w (tokD hs d A).1 v:=by
  unfold tokD
  split
  · exact ⟨gh,Ext.refl _ _,I,hr⟩
  · rename_i x es r
    split
    · rename_i cs
      simp only [Rep] at hr
      obtain ⟨vs,rfl,hr⟩:=hr
      obtain ⟨g',E,I',R⟩:=tokCells_sim ((x,es) :: r) cs _ I hr
      refine ⟨g',E,I', ?_⟩
      simp only [Rep]
      exact ⟨vs,rfl,R⟩
    · rename_i k
      split
      · rename_i cs hk
        have hkl : k < gh.len:=I.len ▸ (List.getElem?_eq_some_iff.1 hk).1
        have hsl:=I.slot k _ hk
        cases hbd : gh.m k with
        | none => rw [hbd] at hsl; exact hsl.elim
        | obj l => rw [hbd] at hsl; exact hsl.elim
        | wait =>
          simp only [Rep] at hr
          obtain ⟨_,p,_,hp,_⟩:=hr
          exact absurd hbd hp
        | tok q n => rw [hbd] at hsl; exact hsl.elim
        | var b o n z =>
          rw [hbd] at hsl
          obtain ⟨⟨rfl,hxc⟩,hsl⟩:=hsl
          obtain ⟨vs,h1,h2⟩:=exists_cells (gh:=gh) (w:=w) (b:=b) cs o fun i d hi => by
            obtain ⟨v,k1,_,_,k4⟩:=hsl i d hi
            exact ⟨v,k1,k4⟩
          obtain ⟨g1,E1,I1,R1⟩:=tokCells_sim ((x,es) :: r) cs vs I h1
          have hk1 : k < g1.len:=Nat.lt_of_lt_of_le hkl E1.len
          have hbd1 : g1.m k = .var b o cs.length z:=by
            rcases E1.bind k hkl with h | h | ⟨r1,n1,r2,n2,h1,_,_⟩
            · rw [h,hbd]
            · have:=I1.slot k _ (tokCells_keep _ _ _ _ _ hk)
              rw [h.2] at this
              exact this.elim
            · rw [hbd] at h1; cases h1
          obtain ⟨E2,I2⟩:=I1.bind_set k hk1 (.var b o cs.length z) (.cells (tokCells ((x,es) :: r) cs A).1) (by
            refine ⟨⟨(tokCells_len _ _ _).symm,hxc⟩,fun j d hj => ?_⟩
            obtain ⟨v,hv,hrv⟩:=R1.get hj
            have hjl : j < cs.length:=by rw [← tokCells_len ((x,es) :: r) cs A]; exact (List.getElem?_eq_some_iff.1 hj).1
            obtain ⟨v',q1,q2,q3,_⟩:=hsl j cs[j] (List.getElem?_eq_getElem hjl)
            have hcell:=h2 j v hv
            rw [q1] at hcell
            cases hcell
            exact ⟨_,q1,q2,q3,hrv⟩) (by rw [hbd1]; exact BindLe.refl _) fun b' off ho => by
              rw [← hbd1] at ho
              exact ⟨I1.own k b' off hk1 ho,fun j hj hne ho' => hne (I1.sep j k b' off hj hk1 ho' ho)⟩
          exact ⟨_,E1.trans E2,I2,(E1.trans E2).rep hr⟩
      · exact ⟨gh,Ext.refl _ _,I,hr⟩
    · exact tokCell_sim es I hr

def NextOk (gh : Gh) (w : World) (d : D) : Next → Prop
  | .value z => Rep gh w d z
  | .skip => d = undefD
  | _ => False
theorem world_sim {o : Oper} {e : List D} {a : Act} {d : D} {A A' : St} (h : worldD P e o.op A = some (d,A')) {gh : Gh} {w : World} (I : Inv gh A w) (he : RepL gh w e a.tmps.toList) :
    ∃ nx w' g',(execOp a.eval o).run P w = .ok nx w' ∧ NextOk g' w' d nx ∧ Ext gh w g' w' ∧ Inv g' A' w':=by
  have ev:=fun x => rep_eval he x
  obtain ⟨dst,op,type,pos,after,guard⟩:=o
  cases op <;> simp only [worldD,reduceCtorEq] at h
  case load t x =>
    simp only [Option.map_eq_some_iff,Prod.mk.injEq] at h
    obtain ⟨d',h,rfl,rfl⟩:=h
    obtain ⟨v,h1,h2⟩:=load_sim h I (ev x)
    exact ⟨.value v,w,gh,by simp [execOp,h1],h2,Ext.refl _ _,I⟩
  case store t x y =>
    simp only [Option.map_eq_some_iff,Prod.mk.injEq] at h
    obtain ⟨A1,h,rfl,rfl⟩:=h
    obtain ⟨w',h1,h2,h3⟩:=store_sim h I (ev x) (ev y)
    exact ⟨.skip,w',gh,by simp [execOp,h1],rfl,h2,h3⟩
  case alloc t =>
    simp only [Option.bind_eq_some_iff] at h
    obtain ⟨z,hz,h⟩:=h
    split at h
    · rename_i hall
      simp only [Option.some.injEq] at h
      have hz0 : RepL gh w (z.cells.toList.map ofCell) z.cells.toList:=by
        have:=RepL.map (g:=gh) (w:=w) ofCell id z.cells.toList fun x _ => rep_ofCell gh w x
        simpa using this
      obtain ⟨w',g',h1,h2,h3,h4⟩:=box_sim (P:=P) (elem:=t) (A:=A) I hz0 hall
      rw [h] at h3 h4
      refine ⟨.value _,w',g', ?_,h4,h2,h3⟩
      simp [execOp,Instr.alloc,tyZero_some hz,h1]
    · cases h
  case box t x =>
    simp only [boxO,Option.bind_eq_some_iff,Option.map_eq_some_iff] at h
    obtain ⟨g,hg,cs,hcs,h⟩:=h
    obtain ⟨q1,q2⟩:=cellsT_rep' hcs (ev x)
    obtain ⟨w',g',h1,h2,h3,h4⟩:=box_sim (P:=P) (elem:=t) (A:=A) I q1 q2
    rw [h] at h3 h4
    exact ⟨.value _,w',g',by simp [execOp,Instr.box,h1],h4,h2,h3⟩
  case buildSlice t n ps =>
    simp only [Option.map_eq_some_iff,Prod.mk.injEq] at h
    obtain ⟨d',h,rfl,rfl⟩:=h
    obtain ⟨z,w',g',h1,h2,h3,h4⟩:=buildSlice_sim h I (us:=ps.map fun (i,x) => (i,a.eval x)) (by simp [List.map_map,Function.comp_def]) (by
      have:=RepL.map (g:=gh) (w:=w) (fun p : Nat × Operand => evalO e p.2) (fun p => a.eval p.2) ps.toList fun p _ => ev p.2
      simpa [List.map_map,Function.comp_def] using this)
    exact ⟨.value z,w',g',by simp only [execOp,Sem.run_bind,h1]; rfl,h4,h2,h3⟩
  case convert s t x =>
    simp only [Option.map_eq_some_iff,Prod.mk.injEq] at h
    obtain ⟨d',h,rfl,rfl⟩:=h
    obtain ⟨z,w',g',h1,h2,h3,h4⟩:=bytes_sim h I (ev x)
    exact ⟨.value z,w',g',by simp only [execOp,Sem.run_bind,h1]; rfl,h4,h2,h3⟩
  case makeSlice t l c =>
    obtain ⟨z,w',g',h1,h2,h3,h4⟩:=make_sim h I (ev l) (ev c)
    exact ⟨.value z,w',g',by simp only [execOp,Sem.run_bind,h1]; rfl,h4,h2,h3⟩
  case call c =>
    obtain ⟨callee,args,argTypes⟩:=c
    cases callee <;> (try (simp only [reduceCtorEq] at h; done))
    rename_i b
    cases b <;> (try (simp only [reduceCtorEq] at h; done))
    simp only at h
    split at h
    · rename_i x y hxy
      obtain ⟨z,w',g',h1,h2,h3,h4⟩:=append_sim h I (ev x) (ev y) type
      refine ⟨.value z,w',g', ?_,h4,h2,h3⟩
      have e1 : args = #[x,y]:=by rw [← Array.toArray_toList (xs:=args),hxy]
      subst e1
      simp only [execOp,resolve,invoke,Sem.run_bind,Sem.run_pure,Result.andThen_ok,builtin,List.map_toArray,List.map_cons,List.map_nil,h1]
    · cases h
theorem worldH_sim {hh : List (Nat × Nat)} {o : Oper} {e : List D} {a : Act} {d : D} {A A' : St} (h : worldH P hh e o.op A = some (d,A')) {gh : Gh} {w : World} (I : Inv gh A w) (he : RepL gh w e a.tmps.toList) :
    ∃ nx w' g',(execOp a.eval o).run P w = .ok nx w' ∧ NextOk g' w' d nx ∧ Ext gh w g' w' ∧ Inv g' A' w':=by
  unfold worldH at h
  split at h
  · rename_i t n ps _ hop
    obtain ⟨dst,op,type,pos,after,guard⟩:=o
    simp only at hop
    subst hop
    have ev:=fun x => rep_eval he x
    obtain ⟨z,w',g',h1,h2,h3,h4⟩:=lit_sim h I (us:=ps.map fun (i,x) => (i,a.eval x)) (by simp [List.map_map,Function.comp_def]) (by
      have:=RepL.map (g:=gh) (w:=w) (fun p : Nat × Operand => evalO e p.2) (fun p => a.eval p.2) ps.toList fun p _ => ev p.2
      simpa [List.map_map,Function.comp_def] using this)
    exact ⟨.value z,w',g',by simp only [execOp,Sem.run_bind,h1]; rfl,h4,h2,h3⟩
  · exact world_sim h I he
end Go.Vm
