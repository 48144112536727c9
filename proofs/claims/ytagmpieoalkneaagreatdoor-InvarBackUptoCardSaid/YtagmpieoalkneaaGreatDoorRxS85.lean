/- RxArgJ, RxS85 in one text. -/
import Derived.Test.YtagmpieoalkneaaGreatDoorRxNR
import Derived.Test.YtagmpieoalkneaaGreatDoorRxS84
import Derived.Test.YtagmpieoalkneaaGreatDoorRxI8
set_option linter.all false
/- What invariants among the arguments stand for. -/
namespace Go.Vm.Rx
open Go Go.Proofs Go.Proofs.YtagmpieoalkneaaGreatDoor P
set_option maxRecDepth 100000
variable {H : Type} {enc : TypeId × Value → H} {w : World} {spare : Nat → Bool} {held : Bool}
mutual
def wt : Rx → Nat | .mk _ nm ks=>nm.length + 1 + wts ks
def wts : List Rx → Nat | []=>0 | k :: ks=>wt k + wts ks
end
mutual
theorem wt_ok : ∀ r : Rx,wt r ≤ 100000000 → r.Ok
  | .mk op nm ks,h=>by
    unfold wt at h
    have:=wts_len ks
    exact ⟨by omega,by omega,wts_ok ks (by omega)⟩
theorem wts_ok : ∀ ks : List Rx,wts ks ≤ 100000000 → Rx.Oks ks
  | [],_=>trivial
  | k :: ks,h=>by
    unfold wts at h
    exact ⟨wt_ok k (by omega),wts_ok ks (by omega)⟩
theorem wts_len : ∀ ks : List Rx,ks.length ≤ wts ks
  | []=>by simp
  | k :: ks=>by
    have:=wts_len ks
    unfold wts
    have h1 : 1 ≤ wt k:=by cases k;unfold wt;omega
    simp only [List.length_cons];omega
end
theorem three_cells {cs : List Value} (h : cs.length = 3) : ∃ a b c,cs = [a,b,c]:=by
  match cs,h with
  | [a,b,c],_=>exact ⟨a,b,c,rfl⟩
theorem canon_sl' (o : Own) (n : Nat) (ds : List D) : (D.sl o n ds).canon = encL n (D.canonL ds):=by cases ds <;> rfl
theorem rxs_of {ds : List D} (els : List (DataW H)) : ds.length = els.length → (∀ (i : Nat) d,ds[i]? = some d → ∃ y,els[i]? = some y ∧ ∃ r : Rx,d.canon = encRx r ∧ wt r ≤ Rows.uptoBulk y) →
    ∃ l : List Rx,D.canonL ds = l.map encRx ∧ wts l ≤ Rows.uptoBulkAll els:=by
  induction ds generalizing els with
  | nil=>exact fun _ _=>⟨[],rfl,by unfold wts;omega⟩
  | cons d ds ih =>
    intro hl h
    cases els with
    | nil=>simp at hl
    | cons e els =>
      obtain ⟨y,hy,r,hr,hb⟩:=h 0 d rfl
      simp only [List.getElem?_cons_zero,Option.some.injEq] at hy
      subst hy
      obtain ⟨l,hl1,hl2⟩:=ih els (by simpa using hl) fun i d hi=>by
        obtain ⟨y,hy,q⟩:=h (i + 1) d (by simpa using hi)
        exact ⟨y,by simpa using hy,q⟩
      refine ⟨r :: l,by rw [qar,hr,hl1];rfl, ?_⟩
      unfold Rows.uptoBulkAll wts
      omega
theorem one_cell {d : D} {v : Value} (h : Rep (g0 w) w d v) (hd : (∃ o n ds,d = .sl o n ds) ∨ ∃ s,d = .str s) : v.oneCell' = true ∧ v.cells = #[v]:=by
  rcases hd with ⟨o,n,ds,rfl⟩ | ⟨s,rfl⟩
  · unfold Rep at h
    obtain ⟨a',cap,rfl,_⟩:=h
    exact ⟨rfl,rfl⟩
  · unfold Rep at h
    obtain ⟨x,rfl,_⟩:=h
    exact ⟨rfl,rfl⟩
theorem arg_rx : ∀ {fuel : Nat} {cs : List Value} {x : DataW H × List MemPlace},DataW.trod enc Tryz.prog w 0 spare held fuel 38 cs = some x →
    ∃ (d : D) (v : Value),v.cells.toList = cs ∧ VC 3 v ∧ Rep (g0 w) w d v ∧ (∃ r : Rx,d.canon = encRx r ∧ wt r ≤ Rows.uptoBulk x.1) ∧ ∃ (c : Array Value) (ds3 : List D),v = .agg c ∧ d = .agg ds3:=by
  intro fuel
  induction fuel using Nat.strongRecOn with
  | _ fuel ih =>
  intro cs x h
  cases fuel with
  | zero=>cases h
  | succ fuel =>
    obtain ⟨hl,xs,hxl,hxa,hf⟩:=trod_struct_f Tryz.underlying38 h
    have cR : Tryz.prog.cellsOf 38 = 3:=by kernel_rfl
    rw [cR] at hl
    obtain ⟨a,b,c,rfl⟩:=three_cells hl
    obtain ⟨y0,g0',t0⟩:=hf 0 _ rfl
    obtain ⟨y1,g1',t1⟩:=hf 1 _ rfl
    obtain ⟨y2,g2',t2⟩:=hf 2 _ rfl
    have cO : Tryz.prog.cellsOf 35 = 1:=by kernel_rfl
    have c9 : Tryz.prog.cellsOf 9 = 1:=by kernel_rfl
    have cK : Tryz.prog.cellsOf 36 = 1:=by kernel_rfl
    simp only [cO,c9,cK] at t0 t1 t2
    obtain ⟨n,e0,_,_⟩:=trod_int Tryz.underlying35 t0
    obtain ⟨s,v1,e1,_,_,r1,b1⟩:=arg_str t1
    cases fuel with
    | zero=>cases t2
    | succ fuel =>
      obtain ⟨ds,v2,e2,r2,_,q2⟩:=slice_rep_f Tryz.underlying36 (n:=3) (by kernel_rfl) (by omega) t2 (fun d y=>∃ r : Rx,d.canon = encRx r ∧ wt r ≤ Rows.uptoBulk y) (by
        intro cells y hl hy
        obtain ⟨d,v,q1,q2,q3,q4,_⟩:=ih fuel (by omega) hy
        exact ⟨d,v,q1,q2,q3,q4⟩)
      simp only [List.drop_zero,List.take_succ_cons,List.take_zero,List.drop_succ_cons,List.cons.injEq,and_true] at e0 e1 e2
      subst e0 e1 e2
      obtain ⟨l,hl1,hl2⟩ : ∃ l : List Rx,D.canonL ds = l.map encRx ∧ wts l + 1 ≤ Rows.uptoBulk y2.1:=by
        rcases q2 with ⟨hx2,rfl⟩ | ⟨els,rest,hx2,hle,hq⟩
        · exact ⟨[],rfl,by rw [hx2];unfold Rows.uptoBulk wts;omega⟩
        · obtain ⟨l,k1,k2⟩:=rxs_of els hle.symm hq
          exact ⟨l,k1,by rw [hx2];unfold Rows.uptoBulk;omega⟩
      refine ⟨.agg [.int .i64 n,.str s,.sl .sh 3 ds],.agg #[.int .i64 n,b,c],rfl,⟨rfl,fun z hz=>?_⟩, ?_,⟨.mk n s l, ?_, ?_⟩,_,_,rfl,rfl⟩
      · have : z = .int .i64 n ∨ z = b ∨ z = c:=by simpa [Value.cells] using hz
        rcases this with rfl | rfl | rfl
        · rfl
        · exact (one_cell r1 (.inr ⟨_,rfl⟩)).1
        · exact (one_cell r2 (.inl ⟨_,_,_,rfl⟩)).1
      · unfold Rep
        refine ⟨_,rfl, ?_⟩
        unfold RepL
        refine ⟨_,_,rfl,by unfold Rep;rfl, ?_⟩
        unfold RepL
        refine ⟨_,_,rfl,r1, ?_⟩
        unfold RepL
        refine ⟨_,_,rfl,r2, ?_⟩
        unfold RepL
        rfl
      · simp only [qbt,qar,qav,qah,qap,canon_sl',hl1,encRx_mk]
      · rw [hxa]
        match xs,hxl,g0',g1',g2' with
        | [z0,z1,z2],_,p0,p1,p2 =>
          simp only [List.getElem?_cons_succ,List.getElem?_cons_zero,Option.some.injEq] at p0 p1 p2
          subst p0 p1 p2
          simp only [List.map_cons,List.map_nil,Rows.uptoBulk,Rows.uptoBulkAll]
          unfold wt
          omega
theorem strs_of {ds : List D} (els : List (DataW H)) : ds.length = els.length → (∀ (i : Nat) d,ds[i]? = some d → ∃ y,els[i]? = some y ∧ ∃ s : Str,d = .str s ∧ s.length ≤ Rows.uptoBulk y) →
    ∃ l : List Str,ds = l.map .str ∧ l.length ≤ Rows.uptoBulkAll els ∧ ∀ s,s ∈ l → s.length ≤ Rows.uptoBulkAll els:=by
  induction ds generalizing els with
  | nil=>exact fun _ _=>⟨[],rfl,by simp,fun s hs=>by cases hs⟩
  | cons d ds ih =>
    intro hl h
    have hbl:=bulk_len els
    cases els with
    | nil=>simp at hl
    | cons e els =>
      obtain ⟨y,hy,r,hr,hrb⟩:=h 0 d rfl
      simp only [List.getElem?_cons_zero,Option.some.injEq] at hy
      subst hy
      obtain ⟨l,hl1,hl2,hl3⟩:=ih els (by simpa using hl) fun i d hi=>by
        obtain ⟨y,hy,q⟩:=h (i + 1) d (by simpa using hi)
        exact ⟨y,by simpa using hy,q⟩
      have hl4 : l.length = ds.length:=by rw [hl1];simp
      refine ⟨r :: l,by rw [hr,hl1];rfl, ?_,fun s hs=>?_⟩
      · simp only [List.length_cons] at hl hbl ⊢;omega
      · unfold Rows.uptoBulkAll
        rcases List.mem_cons.1 hs with rfl | hs
        · omega
        · have:=hl3 s hs;omega
theorem arg_strs {fuel : Nat} {cs : List Value} {x : DataW H × List MemPlace} (h : DataW.trod enc Tryz.prog w 0 spare held fuel 34 cs = some x) :
    ∃ (l : List Str) (v : Value),cs = [v] ∧ Rep (g0 w) w (.sl .sh 1 (l.map .str)) v ∧ l.length ≤ Rows.uptoBulk x.1 ∧ ∀ s,s ∈ l → s.length ≤ Rows.uptoBulk x.1:=by
  obtain ⟨ds,v,h1,h2,h3,h4⟩:=slice_rep Tryz.underlying34 (n:=1) (by kernel_rfl) (by omega) h (fun d y=>∃ s : Str,d = .str s ∧ s.length ≤ Rows.uptoBulk y) (by
    intro fu cells y hl hy
    obtain ⟨s,v1,e0,e1,e2,r0,b0⟩:=arg_str hy
    exact ⟨.str s,v1,e2,e1,r0,s,rfl,by omega⟩)
  rcases h4 with ⟨hx,rfl⟩ | ⟨els,rest,hx,hl,hq⟩
  · exact ⟨[],v,h1,h2,by simp,fun s hs=>by cases hs⟩
  · obtain ⟨l,rfl,k1,k2⟩:=strs_of els hl.symm hq
    refine ⟨l,v,h1,h2, ?_,fun s hs=>?_⟩
    · rw [hx];unfold Rows.uptoBulk;omega
    · rw [hx];unfold Rows.uptoBulk;have:=k2 s hs;omega
theorem nine_cells {cs : List Value} (h : cs.length = 9) : ∃ a b c d e f g h i,cs = [a,b,c,d,e,f,g,h,i]:=by
  match cs,h with
  | [a,b,c,d,e,f,g,h,i],_=>exact ⟨a,b,c,d,e,f,g,h,i,rfl⟩
def IvB (n : Nat) (v : Iv) : Prop:=v.nm.length ≤ n ∧ v.pk.length ≤ n ∧ v.ing.length ≤ n ∧ (∀ s,s ∈ v.ing → s.length ≤ n) ∧ wt v.path ≤ n
theorem IvB.mono {n m : Nat} {v : Iv} (h : IvB n v) (hm : n ≤ m) : IvB m v:=⟨Nat.le_trans h.1 hm,Nat.le_trans h.2.1 hm,Nat.le_trans h.2.2.1 hm,fun s hs=>Nat.le_trans (h.2.2.2.1 s hs) hm,Nat.le_trans h.2.2.2.2 hm⟩
theorem IvB.well {n : Nat} {v : Iv} (h : IvB n v) (hn : n ≤ 100000000) : IvWell v :=
  ⟨⟨wt_ok _ (Nat.le_trans h.2.2.2.2 hn),Nat.le_trans h.2.2.1 hn⟩,Nat.le_trans h.1 hn,Nat.le_trans h.2.1 hn,fun s hs=>Nat.le_trans (h.2.2.2.1 s hs) hn⟩
theorem ivs_of {ds : List D} (els : List (DataW H)) : ds.length = els.length → (∀ (i : Nat) d,ds[i]? = some d → ∃ y,els[i]? = some y ∧ ∃ r : Iv,d.canon = encIv r ∧ IvB (Rows.uptoBulk y) r) →
    ∃ l : List Iv,D.canonL ds = l.map encIv ∧ l.length ≤ Rows.uptoBulkAll els ∧ ∀ r,r ∈ l → IvB (Rows.uptoBulkAll els) r:=by
  induction ds generalizing els with
  | nil=>exact fun _ _=>⟨[],rfl,by simp,fun r hr=>by cases hr⟩
  | cons d ds ih =>
    intro hl h
    have hbl:=bulk_len els
    cases els with
    | nil=>simp at hl
    | cons e els =>
      obtain ⟨y,hy,r,hr,hb⟩:=h 0 d rfl
      simp only [List.getElem?_cons_zero,Option.some.injEq] at hy
      subst hy
      obtain ⟨l,hl1,hl2,hl3⟩:=ih els (by simpa using hl) fun i d hi=>by
        obtain ⟨y,hy,q⟩:=h (i + 1) d (by simpa using hi)
        exact ⟨y,by simpa using hy,q⟩
      have hl4 : l.length = ds.length:=by
        have:=congrArg List.length hl1
        have e : ∀ ds : List D,(D.canonL ds).length = ds.length:=by
          intro ds
          induction ds with
          | nil=>rfl
          | cons a b ih=>simp [D.canonL,ih]
        rw [e] at this
        simpa using this.symm
      refine ⟨r :: l,by rw [qar,hr,hl1];rfl, ?_,fun q hq=>?_⟩
      · simp only [List.length_cons] at hl hbl ⊢;omega
      · unfold Rows.uptoBulkAll
        rcases List.mem_cons.1 hq with rfl | hq
        · exact hb.mono (by omega)
        · exact (hl3 q hq).mono (by omega)
theorem arg_ivs {fuel : Nat} {cs : List Value} {x : DataW H × List MemPlace} (h : DataW.trod enc Tryz.prog w 0 spare held fuel 22 cs = some x) :
    ∃ (d : D) (v : Value),cs = [v] ∧ Rep (g0 w) w d v ∧ ∃ p : List Iv,d.canon = encL 9 (p.map encIv) ∧ p.length ≤ Rows.uptoBulk x.1 ∧ ∀ r,r ∈ p → IvB (Rows.uptoBulk x.1) r:=by
  obtain ⟨ds,v,h1,h2,h3,h4⟩:=slice_rep Tryz.underlying22 (n:=9) (by kernel_rfl) (by omega) h (fun d y=>∃ r : Iv,d.canon = encIv r ∧ IvB (Rows.uptoBulk y) r) (by
    intro fu cells y hl hy
    obtain ⟨c0,c1,c2,c3,c4,c5,c6,c7,c8,rfl⟩:=nine_cells hl
    obtain ⟨_,fu',xs,hxl,hxa,hf⟩:=trod_struct Tryz.underlying40 hy
    obtain ⟨y0,g0',t0⟩:=hf 0 _ rfl
    obtain ⟨y1,g1',t1⟩:=hf 1 _ rfl
    obtain ⟨y2,g2',t2⟩:=hf 2 _ rfl
    obtain ⟨y3,g3',t3⟩:=hf 3 _ rfl
    obtain ⟨y4,g4',t4⟩:=hf 4 _ rfl
    obtain ⟨y5,g5',t5⟩:=hf 5 _ rfl
    obtain ⟨y6,g6',t6⟩:=hf 6 _ rfl
    have k9 : Tryz.prog.cellsOf 9 = 1:=by kernel_rfl
    have k34 : Tryz.prog.cellsOf 34 = 1:=by kernel_rfl
    have k3 : Tryz.prog.cellsOf 3 = 1:=by kernel_rfl
    have k38 : Tryz.prog.cellsOf 38 = 3:=by kernel_rfl
    simp only [k9,k34,k3,k38] at t0 t1 t2 t3 t4 t5 t6
    obtain ⟨nm,v0,e0,_,_,r0,b0⟩:=arg_str t0
    obtain ⟨pk,v1,e1,_,_,r1,b1⟩:=arg_str t1
    obtain ⟨ing,v2,e2,r2,b2,b2'⟩:=arg_strs t2
    obtain ⟨hp,e3,_,_⟩:=trod_int Tryz.underlying3 t3
    obtain ⟨cm,e4,_,_⟩:=trod_int Tryz.underlying3 t4
    obtain ⟨cn,e5,_,_⟩:=trod_int Tryz.underlying3 t5
    obtain ⟨d6,v6,e6,w6,r6,⟨rx,hrx,b6⟩,ca,ds3,rfl,rfl⟩:=arg_rx t6
    simp only [List.drop_zero,List.take_succ_cons,List.take_zero,List.drop_succ_cons,List.cons.injEq,and_true] at e0 e1 e2 e3 e4 e5 e6
    subst e0 e1 e2 e3 e4 e5
    unfold Rep at r6
    obtain ⟨vs,hvs,r6⟩:=r6
    cases hvs
    have ec : (Value.agg ca).cells = ca:=by simp [Value.cells]
    rw [ec] at e6
    rw [e6] at r6
    have hsum : Rows.uptoBulk y0.1 ≤ Rows.uptoBulk y.1 ∧ Rows.uptoBulk y1.1 ≤ Rows.uptoBulk y.1 ∧ Rows.uptoBulk y2.1 ≤ Rows.uptoBulk y.1 ∧ Rows.uptoBulk y6.1 ≤ Rows.uptoBulk y.1:=by
      rw [hxa]
      match xs,hxl,g0',g1',g2',g6' with
      | [z0,z1,z2,z3,z4,z5,z6],_,p0,p1,p2,p6 =>
        simp only [List.getElem?_cons_succ,List.getElem?_cons_zero,Option.some.injEq] at p0 p1 p2 p6
        subst p0 p1 p2 p6
        simp only [List.map_cons,List.map_nil,Rows.uptoBulk,Rows.uptoBulkAll]
        omega
    obtain ⟨s0,s1,s2,s6⟩:=hsum
    refine ⟨.agg (.str nm :: .str pk :: .sl .sh 1 (ing.map .str) :: .int .i64 hp :: .int .i64 cm :: .int .i64 cn :: ds3),.agg #[c0,c1,c2,.int .i64 hp,.int .i64 cm,.int .i64 cn,c6,c7,c8],rfl,⟨rfl,fun z hz=>?_⟩, ?_,⟨nm,pk,ing,hp,cm,cn,rx⟩, ?_,⟨by show nm.length ≤ _;omega,by show pk.length ≤ _;omega,by show ing.length ≤ _;omega,fun s hs=>by have:=b2' s hs;omega,by show wt rx ≤ _;omega⟩⟩
    · have hz' : z = c0 ∨ z = c1 ∨ z = c2 ∨ z = .int .i64 hp ∨ z = .int .i64 cm ∨ z = .int .i64 cn ∨ z = c6 ∨ z = c7 ∨ z = c8:=by simpa [Value.cells] using hz
      have hm : ∀ u,u ∈ [c6,c7,c8] → u.oneCell' = true:=fun u hu=>w6.2 u (by rw [ec];rw [← e6] at hu;simpa using hu)
      rcases hz' with rfl | rfl | rfl | rfl | rfl | rfl | rfl | rfl | rfl
      · exact (one_cell r0 (.inr ⟨_,rfl⟩)).1
      · exact (one_cell r1 (.inr ⟨_,rfl⟩)).1
      · exact (one_cell r2 (.inl ⟨_,_,_,rfl⟩)).1
      · rfl
      · rfl
      · rfl
      · exact hm _ (by simp)
      · exact hm _ (by simp)
      · exact hm _ (by simp)
    · unfold Rep
      refine ⟨_,rfl, ?_⟩
      unfold RepL
      refine ⟨_,_,rfl,r0, ?_⟩
      unfold RepL
      refine ⟨_,_,rfl,r1, ?_⟩
      unfold RepL
      refine ⟨_,_,rfl,r2, ?_⟩
      unfold RepL
      refine ⟨_,_,rfl,by unfold Rep;rfl, ?_⟩
      unfold RepL
      refine ⟨_,_,rfl,by unfold Rep;rfl, ?_⟩
      unfold RepL
      exact ⟨_,_,rfl,by unfold Rep;rfl,r6⟩
    · rw [qbt,encRx_eq] at hrx
      have hd:=D.agg.inj hrx
      have hs : (D.sl .sh 1 (ing.map .str)).canon = encL 1 (ing.map .str):=canon_sl (plainStr ing) _ _
      simp only [qbt,qar,qap,qah,hs,hd]
      rfl)
  rcases h4 with ⟨hx,rfl⟩ | ⟨els,rest,hx,hl,hq⟩
  · exact ⟨_,v,h1,h2,[],rfl,by simp,fun r hr=>by cases hr⟩
  · obtain ⟨l,k0,k1,k2⟩:=ivs_of els hl.symm hq
    refine ⟨_,v,h1,h2,l,by rw [canon_sl',k0], ?_,fun r hr=>?_⟩
    · rw [hx];unfold Rows.uptoBulk;omega
    · rw [hx];unfold Rows.uptoBulk;exact (k2 r hr).mono (by omega)
end Go.Vm.Rx

/- The text of invariants is read as those invariants. -/
namespace Go.Vm.Rx
open Go Go.Proofs P
theorem num_back {n : Int} (h : 0 ≤ n) (h2 : n < 100) : numP (numT n) = some n:=by
  unfold numT
  obtain ⟨m,rfl⟩ : ∃ m : Nat,n = m:=⟨n.toNat,by omega⟩
  simp only [Int.toNat_natCast]
  by_cases h3 : m < 10
  · have e : Lib.decDigits m = [UInt8.ofNat (48 + m)]:=by rw [Lib.decDigits,dif_pos h3]
    rw [e]
    exact num_one ⟨m,h3⟩
  · have e : Lib.decDigits m = [UInt8.ofNat (48 + m / 10),UInt8.ofNat (48 + m % 10)]:=by
      rw [Lib.decDigits,dif_neg h3,Lib.decDigits,dif_pos (by omega)];rfl
    rw [e]
    have:=num_two ⟨m / 10,by omega⟩ ⟨m % 10,by omega⟩ (by dsimp only;omega)
    dsimp only at this
    rw [this]
    congr 1
    omega
theorem sign_back {c : Int} (h : 1 ≤ c ∧ c ≤ 3) : signOf (signT c) = c:=by
  rcases (by omega : c = 1 ∨ c = 2 ∨ c = 3) with rfl | rfl | rfl <;> rfl
theorem num_letters {n : Int} (h : 0 ≤ n) (h2 : n < 100) : net (numT n) = 0:=by
  unfold numT
  obtain ⟨m,rfl⟩ : ∃ m : Nat,n = m:=⟨n.toNat,by omega⟩
  simp only [Int.toNat_natCast]
  have hd:=fun k (hk : k < 10)=>digit_c ⟨k,hk⟩
  dsimp only at hd
  by_cases h3 : m < 10
  · have e : Lib.decDigits m = [UInt8.ofNat (48 + m)]:=by rw [Lib.decDigits,dif_pos h3]
    rw [e]
    exact net_letters _ fun d hm=>by rw [List.mem_singleton.1 hm];exact (hd m h3).1
  · have e : Lib.decDigits m = [UInt8.ofNat (48 + m / 10),UInt8.ofNat (48 + m % 10)]:=by
      rw [Lib.decDigits,dif_neg h3,Lib.decDigits,dif_pos (by omega)];rfl
    rw [e]
    refine net_letters _ fun d hm=>?_
    rcases List.mem_cons.1 hm with rfl | hm
    · exact (hd _ (by omega)).1
    · rw [List.mem_singleton.1 hm];exact (hd _ (by omega)).1
def foreW (v : Iv) : List Str:=headW v ++ joinT true v.ing ++ midW v
theorem body_fore (v : Iv) : ivBody v = foreW v ++ v.path.body:=rfl
theorem net_join : ∀ (l : List Str) (b : Bool),(∀ s,s ∈ l → isName s = true) → netW (joinT b l) = 0
  | [],_,_=>rfl
  | x :: t,b,h=>by
    unfold joinT
    rw [netW_app,net_join t false fun s hs=>h s (List.mem_cons_of_mem _ hs)]
    have:=net_name (h x (by simp))
    cases b
    · show (0 : Int) + (net x + 0) + 0 = 0
      omega
    · show net x + 0 + 0 = 0
      omega
theorem net_fore {v : Iv} (hv : IvGood v) (hr : ivRight v = true) : netW (foreW v) = 0:=by
  unfold ivRight at hr
  simp only [Bool.and_eq_true,decide_eq_true_eq] at hr
  obtain ⟨⟨⟨⟨⟨⟨h1,h2⟩,h3⟩,h4⟩,h5⟩,h6⟩,h7⟩:=hr
  have hpk : net v.pk = 0:=by
    have h2':=h2
    unfold isCube at h2'
    simp only [Bool.and_eq_true] at h2'
    refine net_letters _ fun d hd=>?_
    have:=List.all_eq_true.1 h2'.1.1 d hd
    have e : ∀ n : Nat,d.toNat = n → d = UInt8.ofNat n:=fun n hn=>by rw [← hn];simp
    simp only [cubeB,decide_eq_true_eq] at this
    rcases this with hq | hq | hq <;> (rw [e _ hq];decide)
  have hs : net (signT v.cmp) = 0:=by
    rcases (by omega : v.cmp = 1 ∨ v.cmp = 2 ∨ v.cmp = 3) with e | e | e <;> rw [e] <;> rfl
  have hnm:=net_name h1
  have n1:=num_letters (n:=v.hops) (by omega) (by omega)
  have n2:=num_letters (n:=v.cnt) (by omega) (by omega)
  have hj:=net_join v.ing true (risT_names _ _ h7)
  unfold foreW
  rw [netW_app,netW_app,hj]
  simp only [headW,midW,netW,hpk,hs,hnm,n1,n2]
  rfl
theorem line_back {v : Iv} (hv : IvGood v) (hr : ivRight v = true) {l : List Word} (hl : l.map Word.t = ivBody v) : lineP l = .ok v ∧ netW (ivBody v) = 0 ∨ ∃ a,51 ≤ netW ((ivBody v).take (a + 1)):=by
  have hr':=hr
  unfold ivRight at hr'
  simp only [Bool.and_eq_true,decide_eq_true_eq] at hr'
  obtain ⟨⟨⟨⟨⟨⟨h1,h2⟩,h3⟩,h4⟩,h5⟩,h6⟩,h7⟩:=hr'
  have hnf:=net_fore hv hr
  have hdr : (l.drop (foreW v).length).map Word.t = v.path.body:=by
    rw [List.map_drop,hl,body_fore,List.drop_left]
  rcases read_back hv.path hdr with ⟨h8,h9⟩ | ⟨a,h8,h9⟩
  · left
    refine ⟨?_,by rw [body_fore,netW_app,hnf,h9];rfl⟩
    have hat : P.At l 0 (ivBody v):=P.At.drop (by simpa using hl)
    rw [body_fore] at hat
    obtain ⟨hat,-⟩:=P.At.app.1 hat
    unfold foreW at hat
    obtain ⟨hat,hm⟩:=P.At.app.1 hat
    obtain ⟨hh,hj⟩:=P.At.app.1 hat
    obtain ⟨a0,a1,a2,a3,a4,-⟩:=hh
    have hlen : l.length = (ivBody v).length:=by rw [← hl];simp
    have hfl : (foreW v).length = 5 + (joinT true v.ing).length + 6:=by simp [foreW,headW,midW];omega
    have hll : l.length = 5 + (joinT true v.ing).length + 6 + v.path.body.length:=by rw [hlen,body_fore,List.length_append,hfl]
    cases hing : v.ing with
    | nil=>rw [hing] at h3;simp at h3
    | cons x t =>
      rw [hing] at h7 hj hm hll hfl h3
      have ej : joinT true (x :: t) = x :: joinT false t:=by simp [joinT]
      rw [ej] at hj hm hll hfl
      simp only [headW,List.length_append,List.length_cons,List.length_nil,Nat.zero_add,Nat.reduceAdd] at hj hm hll hfl h3
      have em : 5 + ((joinT false t).length + 1) = 5 + 1 + (joinT false t).length:=by omega
      rw [em] at hm
      obtain ⟨b0,b1,b2,b3,b4,b5,-⟩:=hm
      rw [risT_cons] at h7
      simp only [Bool.and_eq_true] at h7
      have hjl:=joinT_len false t
      have hx:=ing_read t x [] 5 (l.length + 1 - 5) hj (by rw [b0];decide) h7.1.1 (by simp) h7.2 (by simp only [List.length_nil];omega) (by
        have : ∀ (u : List Str),u.length ≤ (joinT false u).length:=fun u=>by
          induction u with
          | nil=>simp
          | cons y u ih=>simp only [joinT,List.length_append,List.length_cons,Bool.false_eq_true,if_false,List.length_nil];omega
        have:=this t
        omega)
      have e0:=mustP_t a0
      have e1 : nameP l 1 = .ok (v.nm,2):=by rw [nameP_t (by rw [a1];exact h1),a1]
      have e2:=mustP_t a2
      have e3 : cubeP l 3 = .ok (v.pk,4):=by rw [cubeP_t (by rw [a3];exact h2),a3]
      have e4:=mustP_t a4
      simp only [List.nil_append] at hx
      generalize 5 + 1 + (joinT false t).length = k at hx b0 b1 b2 b3 b4 b5 em
      have f0:=mustP_t b0
      have f1 : numberP l 64 (k + 1) = .ok (v.hops,k + 1 + 1):=numberP_t (by rw [b1];exact num_back (by omega) (by omega)) h4.2
      have f2:=mustP_t b2
      have f3 : P.signP l (k + 1 + 1 + 1) = .ok (v.cmp,k + 1 + 1 + 1 + 1):=by
        have:=sign_back h5
        rw [P.signP_t (by rw [b3,this];omega),b3,this]
      have f4 : numberP l 62 (k + 1 + 1 + 1 + 1) = .ok (v.cnt,k + 1 + 1 + 1 + 1 + 1):=numberP_t (by rw [b4];exact num_back (by omega) (by omega)) h6.2
      have f5:=mustP_t b5
      have f6 : pathP l (k + 1 + 1 + 1 + 1 + 1 + 1) = .ok v.path:=by
        unfold pathP
        have ek : k + 1 + 1 + 1 + 1 + 1 + 1 = (foreW v).length:=by omega
        rw [ek,h8];rfl
      have hv' : v = ⟨v.nm,v.pk,x :: t,v.hops,v.cmp,v.cnt,v.path⟩:=by rw [← hing]
      rw [hv']
      simp only [Nat.reduceAdd,Nat.zero_add] at e0 e2 e4
      unfold lineP
      rw [e0];dsimp only [Except.bind];rw [e1];dsimp only [Except.bind];rw [e2];dsimp only [Except.bind];rw [e3];dsimp only [Except.bind];rw [e4];dsimp only [Except.bind]
      unfold tail1P tail2P tail3P tail4P
      rw [hx];dsimp only [Except.bind];rw [f0];dsimp only [Except.bind];rw [f1];dsimp only [Except.bind];rw [f2];dsimp only [Except.bind];rw [f3];dsimp only [Except.bind];rw [f4];dsimp only [Except.bind];rw [f5];dsimp only [Except.bind];rw [f6]
  · right
    refine ⟨(foreW v).length + a, ?_⟩
    rw [body_fore,show (foreW v).length + a + 1 = (foreW v).length + (a + 1) from by omega,List.take_length_add_append,netW_app,hnf]
    omega
def linesT : List Iv → Str
  | []=>[]
  | v :: t=>sayW (ivBody v) ++ 10 :: linesT t
theorem splitNL_at : ∀ (a r : Str),(∀ c,c ∈ a → c.toNat ≠ 10) → splitNL (a ++ 10 :: r) = (a,(splitNL r).1 :: (splitNL r).2)
  | [],r,_=>rfl
  | c :: a,r,h=>by
    rw [List.cons_append,splitNL,if_neg (h c (by simp)),splitNL_at a r fun d hd=>h d (List.mem_cons_of_mem _ hd)]
def Fresh : List Iv → List Iv → Prop
  | _,[]=>True
  | pre,v :: t=>knownP pre v.nm = false ∧ Fresh (pre ++ [v]) t
theorem rows_back : ∀ (L : List Iv) (n : Int) (pre : Str) (acc : List Iv),net pre = 0 → (∀ v,v ∈ L → IvGood v ∧ ivRight v = true) → Fresh acc L → acc.length + L.length ≤ 64 →
    ∃ rows,rowsOf n ((splitNL (linesT L)).1 :: (splitNL (linesT L)).2) = some (.ok rows) ∧ (rowsP acc rows = .ok (acc ++ L) ∨ 51 ≤ depF 0 0 (pre ++ linesT L))
  | [],n,pre,acc,hp,hg,hf,hl=>⟨[],rfl,.inl (by simp [rowsP])⟩
  | v :: L,n,pre,acc,hp,hg,hf,hl=>by
    obtain ⟨g1,g2⟩:=hg v (by simp)
    have hwd:=(body_ok g1 g2).1
    have hnl:=sayW_nl fun w hw=>(hwd w hw).1
    have hne : ∃ w r,ivBody v = w :: r:=⟨wInvariant,_,rfl⟩
    obtain ⟨w,r,hwr⟩:=hne
    obtain ⟨ws,h1,h2⟩:=toks_say n r w ((sayW (ivBody v)).length + 1) 0 (by rw [← hwr];exact fun w hw=>(hwd w hw).1) (by rw [hwr];simp [sayW])
    rw [← hwr] at h2
    have hst : w ++ sayF w r = sayW (ivBody v):=by rw [hwr];rfl
    rw [hst] at h1
    simp only [List.length_cons] at hl
    have hwne : ∃ a b,ws = a :: b:=by
      cases ws with
      | nil=>rw [hwr] at h2;cases h2
      | cons a b=>exact ⟨a,b,rfl⟩
    unfold linesT
    rw [splitNL_at _ _ hnl]
    have step : ∀ rows,rowsOf (n + 1) ((splitNL (linesT L)).1 :: (splitNL (linesT L)).2) = some (.ok rows) → rowsOf n (sayW (ivBody v) :: (splitNL (linesT L)).1 :: (splitNL (linesT L)).2) = some (.ok (ws :: rows)):=by
      intro rows hrw
      rw [rowsOf,h1]
      dsimp only
      rw [hrw]
      obtain ⟨a,b,rfl⟩:=hwne
      rfl
    rcases line_back g1 g2 h2 with ⟨h3,h4⟩ | ⟨a,h3⟩
    · have hp' : net (pre ++ (sayW (ivBody v) ++ [10])) = 0:=by
        rw [net_app,net_app,hp,net_sayW,h4];rfl
      obtain ⟨rows,h5,h6⟩:=rows_back L (n + 1) (pre ++ (sayW (ivBody v) ++ [10])) (acc ++ [v]) hp' (fun u hu=>hg u (List.mem_cons_of_mem _ hu)) hf.2 (by simp only [List.length_append,List.length_cons,List.length_nil];omega)
      refine ⟨ws :: rows,step rows h5, ?_⟩
      rcases h6 with h6 | h6
      · left
        have ha : addP acc ws = .ok v:=by
          unfold addP
          rw [h3]
          dsimp only [Except.bind]
          rw [hf.1,if_neg (by decide),if_neg (by omega)]
        rw [rowsP,ha]
        dsimp only
        rw [h6,List.append_assoc];rfl
      · right
        simpa using h6
    · obtain ⟨rows,h5,-⟩:=rows_back L (n + 1) [] (acc ++ [v]) rfl (fun u hu=>hg u (List.mem_cons_of_mem _ hu)) hf.2 (by simp only [List.length_append,List.length_cons,List.length_nil];omega)
      refine ⟨ws :: rows,step rows h5,.inr ?_⟩
      obtain ⟨t,ht⟩:=sayW_pre ((ivBody v).take (a + 1)) ((ivBody v).drop (a + 1)) (by rw [hwr];simp)
      rw [List.take_append_drop] at ht
      rw [ht,List.append_assoc,← List.append_assoc]
      have:=depF_pre (pre ++ sayW ((ivBody v).take (a + 1))) (t ++ 10 :: linesT L) 0 0 (by omega)
      rw [net_app,hp,net_sayW] at this
      omega
theorem printL_some : ∀ (t pre : List Iv) (b : Str),printL b pre t = (b ++ linesT t,0,0) ∧ (b ++ linesT t).length ≤ 1048576 ∧ (∀ v,v ∈ t → ivForm v = 0) ∧ Fresh pre t ∨
    (printL b pre t).1 = [] ∧ 0 ≤ (printL b pre t).2.1 ∧ (printL b pre t).2.2 ≠ 0 ∧ ((∀ v,v ∈ t → ivForm v = 0) → Fresh pre t → (printL b pre t).2.2 = 2)
  | [],pre,b=>by
    unfold printL linesT
    by_cases h : 1048576 < b.length
    · rw [if_pos h];exact .inr ⟨rfl,by decide,by decide,fun _ _=>rfl⟩
    · rw [if_neg h]
      exact .inl ⟨by simp,by simp;omega,by simp,trivial⟩
  | v :: t,pre,b=>by
    unfold printL linesT
    by_cases h : ivForm v = 0
    · rw [if_neg (fun e=>e h)]
      by_cases hk : knownP pre v.nm = true
      · rw [if_pos hk]
        exact .inr ⟨rfl,by dsimp only;omega,by show (52 : Int) ≠ 0;decide,fun _ hf=>by have:=hf.1;rw [hk] at this;cases this⟩
      · rw [if_neg hk]
        have e : b ++ (sayW (ivBody v) ++ 10 :: linesT t) = b ++ sayW (ivBody v) ++ [10] ++ linesT t:=by simp
        rw [e]
        rcases printL_some t (pre ++ [v]) (b ++ sayW (ivBody v) ++ [10]) with ⟨h1,h2,h3,h4⟩ | ⟨h1,h2,h3,h4⟩
        · refine .inl ⟨h1,h2,fun u hu=>?_,by simpa using hk,h4⟩
          rcases List.mem_cons.1 hu with rfl | hu
          · exact h
          · exact h3 u hu
        · exact .inr ⟨h1,h2,h3,fun hg hf=>h4 (fun u hu=>hg u (List.mem_cons_of_mem _ hu)) hf.2⟩
    · rw [if_pos h]
      exact .inr ⟨rfl,by dsimp only;omega,h,fun hg _=>absurd (hg v (by simp)) h⟩
theorem text_back (l : List Iv) (hv : ∀ v,v ∈ l → IvWell v) {s : Str} {n : Int} (h : printP l = (s,n,0)) (hd : depF 0 0 s ≤ 50) : s.length ≤ 1048576 ∧ ∃ rows,textP s (.ok rows) ∧ rowsP [] rows = .ok l:=by
  unfold printP at h
  split at h
  · simp at h
  · rcases printL_some l [] [] with ⟨h1,h2,h3,h4⟩ | ⟨h1,h2,h3,h4⟩
    · rw [h1] at h
      simp only [List.nil_append,Prod.mk.injEq,and_true] at h h2
      obtain ⟨rfl,-⟩:=h
      refine ⟨h2, ?_⟩
      obtain ⟨rows,h5,h6⟩:=rows_back l 1 [] [] rfl (fun v hm=>ivGood (hv v hm) (h3 v hm)) h4 (by simp only [List.length_nil];omega)
      refine ⟨rows,h5, ?_⟩
      rcases h6 with h6 | h6
      · simpa using h6
      · simp only [List.nil_append] at h6;omega
    · rw [h] at h3;exact absurd rfl h3
end Go.Vm.Rx
