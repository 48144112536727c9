/- RxArgJ, RxCall6 in one text. -/
import Derived.Test.YtagmpieoalkneaaGreatDoorRxArgI
import Derived.Test.YtagmpieoalkneaaGreatDoorRxS84
set_option linter.all false
/- What invariants among the arguments stand for. -/
namespace Go.Vm.Rx
open Go Go.Proofs Go.Proofs.YtagmpieoalkneaaGreatDoor P
set_option maxRecDepth 100000
variable {H : Type} {enc : TypeId × Value → H} {w : World} {spare : Nat → Bool} {held : Bool}
mutual
def wt : Rx → Nat | .mk _ nm ks => nm.length + 1 + wts ks
def wts : List Rx → Nat | [] => 0 | k :: ks => wt k + wts ks
end
mutual
theorem wt_ok : ∀ r : Rx, wt r ≤ 100000000 → r.Ok
  | .mk op nm ks, h => by
    unfold wt at h
    have := wts_len ks
    exact ⟨by omega, by omega, wts_ok ks (by omega)⟩
theorem wts_ok : ∀ ks : List Rx, wts ks ≤ 100000000 → Rx.Oks ks
  | [], _ => trivial
  | k :: ks, h => by
    unfold wts at h
    exact ⟨wt_ok k (by omega), wts_ok ks (by omega)⟩
theorem wts_len : ∀ ks : List Rx, ks.length ≤ wts ks
  | [] => by simp
  | k :: ks => by
    have := wts_len ks
    unfold wts
    have h1 : 1 ≤ wt k := by cases k; unfold wt; omega
    simp only [List.length_cons]; omega
end
theorem three_cells {cs : List Value} (h : cs.length = 3) : ∃ a b c, cs = [a, b, c] := by
  match cs, h with
  | [a, b, c], _ => exact ⟨a, b, c, rfl⟩
theorem canon_sl' (o : Own) (n : Nat) (ds : List D) : (D.sl o n ds).canon = encL n (D.canonL ds) := by cases ds <;> rfl
theorem rxs_of {ds : List D} (els : List (DataW H)) : ds.length = els.length → (∀ (i : Nat) d, ds[i]? = some d → ∃ y, els[i]? = some y ∧ ∃ r : Rx, d.canon = encRx r ∧ wt r ≤ Rows.uptoBulk y) →
    ∃ l : List Rx, D.canonL ds = l.map encRx ∧ wts l ≤ Rows.uptoBulkAll els := by
  induction ds generalizing els with
  | nil => exact fun _ _ => ⟨[], rfl, by unfold wts; omega⟩
  | cons d ds ih =>
    intro hl h
    cases els with
    | nil => simp at hl
    | cons e els =>
      obtain ⟨y, hy, r, hr, hb⟩ := h 0 d rfl
      simp only [List.getElem?_cons_zero, Option.some.injEq] at hy
      subst hy
      obtain ⟨l, hl1, hl2⟩ := ih els (by simpa using hl) fun i d hi => by
        obtain ⟨y, hy, q⟩ := h (i + 1) d (by simpa using hi)
        exact ⟨y, by simpa using hy, q⟩
      refine ⟨r :: l, by rw [qa9, hr, hl1]; rfl, ?_⟩
      unfold Rows.uptoBulkAll wts
      omega
theorem one_cell {d : D} {v : Value} (h : Rep (g0 w) w d v) (hd : (∃ o n ds, d = .sl o n ds) ∨ ∃ s, d = .str s) : v.oneCell' = true ∧ v.cells = #[v] := by
  rcases hd with ⟨o, n, ds, rfl⟩ | ⟨s, rfl⟩
  · unfold Rep at h
    obtain ⟨a', cap, rfl, _⟩ := h
    exact ⟨rfl, rfl⟩
  · unfold Rep at h
    obtain ⟨x, rfl, _⟩ := h
    exact ⟨rfl, rfl⟩
theorem arg_rx : ∀ {fuel : Nat} {cs : List Value} {x : DataW H × List MemPlace}, DataW.trod enc Tryz.prog w 0 spare held fuel 38 cs = some x →
    ∃ (d : D) (v : Value), v.cells.toList = cs ∧ VC 3 v ∧ Rep (g0 w) w d v ∧ (∃ r : Rx, d.canon = encRx r ∧ wt r ≤ Rows.uptoBulk x.1) ∧ ∃ (c : Array Value) (ds3 : List D), v = .agg c ∧ d = .agg ds3 := by
  intro fuel
  induction fuel using Nat.strongRecOn with
  | _ fuel ih =>
  intro cs x h
  cases fuel with
  | zero => cases h
  | succ fuel =>
    obtain ⟨hl, xs, hxl, hxa, hf⟩ := trod_struct_f Tryz.underlying38 h
    have cR : Tryz.prog.cellsOf 38 = 3 := by kernel_rfl
    rw [cR] at hl
    obtain ⟨a, b, c, rfl⟩ := three_cells hl
    obtain ⟨y0, g0', t0⟩ := hf 0 _ rfl
    obtain ⟨y1, g1', t1⟩ := hf 1 _ rfl
    obtain ⟨y2, g2', t2⟩ := hf 2 _ rfl
    have cO : Tryz.prog.cellsOf 35 = 1 := by kernel_rfl
    have c9 : Tryz.prog.cellsOf 9 = 1 := by kernel_rfl
    have cK : Tryz.prog.cellsOf 36 = 1 := by kernel_rfl
    simp only [cO, c9, cK] at t0 t1 t2
    obtain ⟨n, e0, _, _⟩ := trod_int Tryz.underlying35 t0
    obtain ⟨s, v1, e1, _, _, r1, b1⟩ := arg_str t1
    cases fuel with
    | zero => cases t2
    | succ fuel =>
      obtain ⟨ds, v2, e2, r2, _, q2⟩ := slice_rep_f Tryz.underlying36 (n := 3) (by kernel_rfl) (by omega) t2 (fun d y => ∃ r : Rx, d.canon = encRx r ∧ wt r ≤ Rows.uptoBulk y) (by
        intro cells y hl hy
        obtain ⟨d, v, q1, q2, q3, q4, _⟩ := ih fuel (by omega) hy
        exact ⟨d, v, q1, q2, q3, q4⟩)
      simp only [List.drop_zero, List.take_succ_cons, List.take_zero, List.drop_succ_cons, List.cons.injEq, and_true] at e0 e1 e2
      subst e0 e1 e2
      obtain ⟨l, hl1, hl2⟩ : ∃ l : List Rx, D.canonL ds = l.map encRx ∧ wts l + 1 ≤ Rows.uptoBulk y2.1 := by
        rcases q2 with ⟨hx2, rfl⟩ | ⟨els, rest, hx2, hle, hq⟩
        · exact ⟨[], rfl, by rw [hx2]; unfold Rows.uptoBulk wts; omega⟩
        · obtain ⟨l, k1, k2⟩ := rxs_of els hle.symm hq
          exact ⟨l, k1, by rw [hx2]; unfold Rows.uptoBulk; omega⟩
      refine ⟨.agg [.int .i64 n, .str s, .sl .sh 3 ds], .agg #[.int .i64 n, b, c], rfl, ⟨rfl, fun z hz => ?_⟩, ?_, ⟨.mk n s l, ?_, ?_⟩, _, _, rfl, rfl⟩
      · have : z = .int .i64 n ∨ z = b ∨ z = c := by simpa [Value.cells] using hz
        rcases this with rfl | rfl | rfl
        · rfl
        · exact (one_cell r1 (.inr ⟨_, rfl⟩)).1
        · exact (one_cell r2 (.inl ⟨_, _, _, rfl⟩)).1
      · unfold Rep
        refine ⟨_, rfl, ?_⟩
        unfold RepL
        refine ⟨_, _, rfl, by unfold Rep; rfl, ?_⟩
        unfold RepL
        refine ⟨_, _, rfl, r1, ?_⟩
        unfold RepL
        refine ⟨_, _, rfl, r2, ?_⟩
        unfold RepL
        rfl
      · simp only [canon_agg, qa9, qbh, qaj, qau, canon_sl', hl1, encRx_mk]
      · rw [hxa]
        match xs, hxl, g0', g1', g2' with
        | [z0, z1, z2], _, p0, p1, p2 =>
          simp only [List.getElem?_cons_succ, List.getElem?_cons_zero, Option.some.injEq] at p0 p1 p2
          subst p0 p1 p2
          simp only [List.map_cons, List.map_nil, Rows.uptoBulk, Rows.uptoBulkAll]
          unfold wt
          omega
theorem strs_of {ds : List D} (els : List (DataW H)) : ds.length = els.length → (∀ (i : Nat) d, ds[i]? = some d → ∃ y, els[i]? = some y ∧ ∃ s : Str, d = .str s ∧ s.length ≤ Rows.uptoBulk y) →
    ∃ l : List Str, ds = l.map .str ∧ l.length ≤ Rows.uptoBulkAll els ∧ ∀ s, s ∈ l → s.length ≤ Rows.uptoBulkAll els := by
  induction ds generalizing els with
  | nil => exact fun _ _ => ⟨[], rfl, by simp, fun s hs => by cases hs⟩
  | cons d ds ih =>
    intro hl h
    have hbl := bulk_len els
    cases els with
    | nil => simp at hl
    | cons e els =>
      obtain ⟨y, hy, r, hr, hrb⟩ := h 0 d rfl
      simp only [List.getElem?_cons_zero, Option.some.injEq] at hy
      subst hy
      obtain ⟨l, hl1, hl2, hl3⟩ := ih els (by simpa using hl) fun i d hi => by
        obtain ⟨y, hy, q⟩ := h (i + 1) d (by simpa using hi)
        exact ⟨y, by simpa using hy, q⟩
      have hl4 : l.length = ds.length := by rw [hl1]; simp
      refine ⟨r :: l, by rw [hr, hl1]; rfl, ?_, fun s hs => ?_⟩
      · simp only [List.length_cons] at hl hbl ⊢; omega
      · unfold Rows.uptoBulkAll
        rcases List.mem_cons.1 hs with rfl | hs
        · omega
        · have := hl3 s hs; omega
theorem arg_strs {fuel : Nat} {cs : List Value} {x : DataW H × List MemPlace} (h : DataW.trod enc Tryz.prog w 0 spare held fuel 34 cs = some x) :
    ∃ (l : List Str) (v : Value), cs = [v] ∧ Rep (g0 w) w (.sl .sh 1 (l.map .str)) v ∧ l.length ≤ Rows.uptoBulk x.1 ∧ ∀ s, s ∈ l → s.length ≤ Rows.uptoBulk x.1 := by
  obtain ⟨ds, v, h1, h2, h3, h4⟩ := slice_rep Tryz.underlying34 (n := 1) (by kernel_rfl) (by omega) h (fun d y => ∃ s : Str, d = .str s ∧ s.length ≤ Rows.uptoBulk y) (by
    intro fu cells y hl hy
    obtain ⟨s, v1, e0, e1, e2, r0, b0⟩ := arg_str hy
    exact ⟨.str s, v1, e2, e1, r0, s, rfl, by omega⟩)
  rcases h4 with ⟨hx, rfl⟩ | ⟨els, rest, hx, hl, hq⟩
  · exact ⟨[], v, h1, h2, by simp, fun s hs => by cases hs⟩
  · obtain ⟨l, rfl, k1, k2⟩ := strs_of els hl.symm hq
    refine ⟨l, v, h1, h2, ?_, fun s hs => ?_⟩
    · rw [hx]; unfold Rows.uptoBulk; omega
    · rw [hx]; unfold Rows.uptoBulk; have := k2 s hs; omega
theorem nine_cells {cs : List Value} (h : cs.length = 9) : ∃ a b c d e f g h i, cs = [a, b, c, d, e, f, g, h, i] := by
  match cs, h with
  | [a, b, c, d, e, f, g, h, i], _ => exact ⟨a, b, c, d, e, f, g, h, i, rfl⟩
def IvB (n : Nat) (v : Iv) : Prop := v.nm.length ≤ n ∧ v.pk.length ≤ n ∧ v.ing.length ≤ n ∧ (∀ s, s ∈ v.ing → s.length ≤ n) ∧ wt v.path ≤ n
theorem IvB.mono {n m : Nat} {v : Iv} (h : IvB n v) (hm : n ≤ m) : IvB m v := ⟨Nat.le_trans h.1 hm, Nat.le_trans h.2.1 hm, Nat.le_trans h.2.2.1 hm, fun s hs => Nat.le_trans (h.2.2.2.1 s hs) hm, Nat.le_trans h.2.2.2.2 hm⟩
theorem IvB.well {n : Nat} {v : Iv} (h : IvB n v) (hn : n ≤ 100000000) : IvWell v :=
  ⟨⟨wt_ok _ (Nat.le_trans h.2.2.2.2 hn), Nat.le_trans h.2.2.1 hn⟩, Nat.le_trans h.1 hn, Nat.le_trans h.2.1 hn, fun s hs => Nat.le_trans (h.2.2.2.1 s hs) hn⟩
theorem ivs_of {ds : List D} (els : List (DataW H)) : ds.length = els.length → (∀ (i : Nat) d, ds[i]? = some d → ∃ y, els[i]? = some y ∧ ∃ r : Iv, d.canon = encIv r ∧ IvB (Rows.uptoBulk y) r) →
    ∃ l : List Iv, D.canonL ds = l.map encIv ∧ l.length ≤ Rows.uptoBulkAll els ∧ ∀ r, r ∈ l → IvB (Rows.uptoBulkAll els) r := by
  induction ds generalizing els with
  | nil => exact fun _ _ => ⟨[], rfl, by simp, fun r hr => by cases hr⟩
  | cons d ds ih =>
    intro hl h
    have hbl := bulk_len els
    cases els with
    | nil => simp at hl
    | cons e els =>
      obtain ⟨y, hy, r, hr, hb⟩ := h 0 d rfl
      simp only [List.getElem?_cons_zero, Option.some.injEq] at hy
      subst hy
      obtain ⟨l, hl1, hl2, hl3⟩ := ih els (by simpa using hl) fun i d hi => by
        obtain ⟨y, hy, q⟩ := h (i + 1) d (by simpa using hi)
        exact ⟨y, by simpa using hy, q⟩
      have hl4 : l.length = ds.length := by
        have := congrArg List.length hl1
        have e : ∀ ds : List D, (D.canonL ds).length = ds.length := by
          intro ds
          induction ds with
          | nil => rfl
          | cons a b ih => simp [D.canonL, ih]
        rw [e] at this
        simpa using this.symm
      refine ⟨r :: l, by rw [qa9, hr, hl1]; rfl, ?_, fun q hq => ?_⟩
      · simp only [List.length_cons] at hl hbl ⊢; omega
      · unfold Rows.uptoBulkAll
        rcases List.mem_cons.1 hq with rfl | hq
        · exact hb.mono (by omega)
        · exact (hl3 q hq).mono (by omega)
theorem arg_ivs {fuel : Nat} {cs : List Value} {x : DataW H × List MemPlace} (h : DataW.trod enc Tryz.prog w 0 spare held fuel 22 cs = some x) :
    ∃ (d : D) (v : Value), cs = [v] ∧ Rep (g0 w) w d v ∧ ∃ p : List Iv, d.canon = encL 9 (p.map encIv) ∧ p.length ≤ Rows.uptoBulk x.1 ∧ ∀ r, r ∈ p → IvB (Rows.uptoBulk x.1) r := by
  obtain ⟨ds, v, h1, h2, h3, h4⟩ := slice_rep Tryz.underlying22 (n := 9) (by kernel_rfl) (by omega) h (fun d y => ∃ r : Iv, d.canon = encIv r ∧ IvB (Rows.uptoBulk y) r) (by
    intro fu cells y hl hy
    obtain ⟨c0, c1, c2, c3, c4, c5, c6, c7, c8, rfl⟩ := nine_cells hl
    obtain ⟨_, fu', xs, hxl, hxa, hf⟩ := trod_struct Tryz.underlying40 hy
    obtain ⟨y0, g0', t0⟩ := hf 0 _ rfl
    obtain ⟨y1, g1', t1⟩ := hf 1 _ rfl
    obtain ⟨y2, g2', t2⟩ := hf 2 _ rfl
    obtain ⟨y3, g3', t3⟩ := hf 3 _ rfl
    obtain ⟨y4, g4', t4⟩ := hf 4 _ rfl
    obtain ⟨y5, g5', t5⟩ := hf 5 _ rfl
    obtain ⟨y6, g6', t6⟩ := hf 6 _ rfl
    have k9 : Tryz.prog.cellsOf 9 = 1 := by kernel_rfl
    have k34 : Tryz.prog.cellsOf 34 = 1 := by kernel_rfl
    have k3 : Tryz.prog.cellsOf 3 = 1 := by kernel_rfl
    have k38 : Tryz.prog.cellsOf 38 = 3 := by kernel_rfl
    simp only [k9, k34, k3, k38] at t0 t1 t2 t3 t4 t5 t6
    obtain ⟨nm, v0, e0, _, _, r0, b0⟩ := arg_str t0
    obtain ⟨pk, v1, e1, _, _, r1, b1⟩ := arg_str t1
    obtain ⟨ing, v2, e2, r2, b2, b2'⟩ := arg_strs t2
    obtain ⟨hp, e3, _, _⟩ := trod_int Tryz.underlying3 t3
    obtain ⟨cm, e4, _, _⟩ := trod_int Tryz.underlying3 t4
    obtain ⟨cn, e5, _, _⟩ := trod_int Tryz.underlying3 t5
    obtain ⟨d6, v6, e6, w6, r6, ⟨rx, hrx, b6⟩, ca, ds3, rfl, rfl⟩ := arg_rx t6
    simp only [List.drop_zero, List.take_succ_cons, List.take_zero, List.drop_succ_cons, List.cons.injEq, and_true] at e0 e1 e2 e3 e4 e5 e6
    subst e0 e1 e2 e3 e4 e5
    unfold Rep at r6
    obtain ⟨vs, hvs, r6⟩ := r6
    cases hvs
    have ec : (Value.agg ca).cells = ca := by simp [Value.cells]
    rw [ec] at e6
    rw [e6] at r6
    have hsum : Rows.uptoBulk y0.1 ≤ Rows.uptoBulk y.1 ∧ Rows.uptoBulk y1.1 ≤ Rows.uptoBulk y.1 ∧ Rows.uptoBulk y2.1 ≤ Rows.uptoBulk y.1 ∧ Rows.uptoBulk y6.1 ≤ Rows.uptoBulk y.1 := by
      rw [hxa]
      match xs, hxl, g0', g1', g2', g6' with
      | [z0, z1, z2, z3, z4, z5, z6], _, p0, p1, p2, p6 =>
        simp only [List.getElem?_cons_succ, List.getElem?_cons_zero, Option.some.injEq] at p0 p1 p2 p6
        subst p0 p1 p2 p6
        simp only [List.map_cons, List.map_nil, Rows.uptoBulk, Rows.uptoBulkAll]
        omega
    obtain ⟨s0, s1, s2, s6⟩ := hsum
    refine ⟨.agg (.str nm :: .str pk :: .sl .sh 1 (ing.map .str) :: .int .i64 hp :: .int .i64 cm :: .int .i64 cn :: ds3), .agg #[c0, c1, c2, .int .i64 hp, .int .i64 cm, .int .i64 cn, c6, c7, c8], rfl, ⟨rfl, fun z hz => ?_⟩, ?_, ⟨nm, pk, ing, hp, cm, cn, rx⟩, ?_, ⟨by show nm.length ≤ _; omega, by show pk.length ≤ _; omega, by show ing.length ≤ _; omega, fun s hs => by have := b2' s hs; omega, by show wt rx ≤ _; omega⟩⟩
    · have hz' : z = c0 ∨ z = c1 ∨ z = c2 ∨ z = .int .i64 hp ∨ z = .int .i64 cm ∨ z = .int .i64 cn ∨ z = c6 ∨ z = c7 ∨ z = c8 := by simpa [Value.cells] using hz
      have hm : ∀ u, u ∈ [c6, c7, c8] → u.oneCell' = true := fun u hu => w6.2 u (by rw [ec]; rw [← e6] at hu; simpa using hu)
      rcases hz' with rfl | rfl | rfl | rfl | rfl | rfl | rfl | rfl | rfl
      · exact (one_cell r0 (.inr ⟨_, rfl⟩)).1
      · exact (one_cell r1 (.inr ⟨_, rfl⟩)).1
      · exact (one_cell r2 (.inl ⟨_, _, _, rfl⟩)).1
      · rfl
      · rfl
      · rfl
      · exact hm _ (by simp)
      · exact hm _ (by simp)
      · exact hm _ (by simp)
    · unfold Rep
      refine ⟨_, rfl, ?_⟩
      unfold RepL
      refine ⟨_, _, rfl, r0, ?_⟩
      unfold RepL
      refine ⟨_, _, rfl, r1, ?_⟩
      unfold RepL
      refine ⟨_, _, rfl, r2, ?_⟩
      unfold RepL
      refine ⟨_, _, rfl, by unfold Rep; rfl, ?_⟩
      unfold RepL
      refine ⟨_, _, rfl, by unfold Rep; rfl, ?_⟩
      unfold RepL
      exact ⟨_, _, rfl, by unfold Rep; rfl, r6⟩
    · rw [canon_agg, encRx_eq] at hrx
      have hd := D.agg.inj hrx
      have hs : (D.sl .sh 1 (ing.map .str)).canon = encL 1 (ing.map .str) := canon_sl (plainStr ing) _ _
      simp only [canon_agg, qa9, qau, qaj, hs, hd]
      rfl)
  rcases h4 with ⟨hx, rfl⟩ | ⟨els, rest, hx, hl, hq⟩
  · exact ⟨_, v, h1, h2, [], rfl, by simp, fun r hr => by cases hr⟩
  · obtain ⟨l, k0, k1, k2⟩ := ivs_of els hl.symm hq
    refine ⟨_, v, h1, h2, l, by rw [canon_sl', k0], ?_, fun r hr => ?_⟩
    · rw [hx]; unfold Rows.uptoBulk; omega
    · rw [hx]; unfold Rows.uptoBulk; exact (k2 r hr).mono (by omega)
end Go.Vm.Rx

/- The law InvarPrints, called. -/
namespace Go.Vm.Rx
open Go Go.Proofs Go.Proofs.YtagmpieoalkneaaGreatDoor P
set_option maxRecDepth 100000
theorem call6 (w : World) (d0 : D) (p0 : List Iv) (hd0 : d0.canon = encL 9 (p0.map encIv)) (hl0 : p0.length ≤ 1048576) (hp0 : ∀ w, w ∈ p0 → IvB 1048576 w) (args : Array Value) (ha : RepL (g0 w) w [d0] args.toList) :
    Calls Tryz.prog 6 args w fun e w' => e = .returned (.bool true) ∧ Go.RowKit.Below w.heap.size w w' := by
  refine call_true Tryz.func6 (by kernel_rfl) (A' := []) ?_ ha
  rw [r6, hd0]
  exact law_prints p0 (by omega) (fun v h => (hp0 v h).well (by omega)) []
end Go.Vm.Rx
