/- What devices among the arguments stand for. -/
import Derived.Test.YtikjlgcbcljehaaGreatDoorRxArg2
import Derived.Test.YtikjlgcbcljehaaGreatDoorRxS49
set_option linter.all false
namespace Go.Vm.Rx
open Go Go.Proofs Go.Proofs.YtikjlgcbcljehaaGreatDoor P
set_option linter.unusedVariables false
set_option maxRecDepth 100000
variable {H : Type} {enc : TypeId × Value → H} {w : World} {spare : Nat → Bool} {held : Bool}
theorem strs_of {ds : List D} (els : List (DataW H)) : ds.length = els.length → (∀ (i : Nat) d, ds[i]? = some d → ∃ y, els[i]? = some y ∧ ∃ s : Str, d = .str s) →
    ∃ l : List Str, ds = l.map .str ∧ l.length ≤ Rows.uptoBulkAll els := by
  induction ds generalizing els with
  | nil => exact fun _ _ => ⟨[], rfl, by simp⟩
  | cons d ds ih =>
    intro hl h
    have hbl := bulk_len els
    cases els with
    | nil => simp at hl
    | cons e els =>
      obtain ⟨y, hy, r, hr⟩ := h 0 d rfl
      obtain ⟨l, hl1, hl2⟩ := ih els (by simpa using hl) fun i d hi => by
        obtain ⟨y, hy, q⟩ := h (i + 1) d (by simpa using hi)
        exact ⟨y, by simpa using hy, q⟩
      have hl4 : l.length = ds.length := by rw [hl1]; simp
      refine ⟨r :: l, by rw [hr, hl1]; rfl, ?_⟩
      simp only [List.length_cons] at hl hbl ⊢; omega
theorem arg_strs {fuel : Nat} {cs : List Value} {x : DataW H × List MemPlace} (h : DataW.trod enc Tryz.prog w 0 spare held fuel 33 cs = some x) :
    ∃ (l : List Str) (v : Value), cs = [v] ∧ Rep (g0 w) w (.sl .sh 1 (l.map .str)) v ∧ l.length ≤ Rows.uptoBulk x.1 := by
  obtain ⟨ds, v, h1, h2, h3, h4⟩ := slice_rep Tryz.underlying33 (n := 1) (by kernel_rfl) (by omega) h (fun d y => ∃ s : Str, d = .str s) (by
    intro fu cells y hl hy
    obtain ⟨s, v1, e0, e1, e2, r0, b0⟩ := arg_str hy
    exact ⟨.str s, v1, e2, e1, r0, s, rfl⟩)
  rcases h4 with ⟨hx, rfl⟩ | ⟨els, rest, hx, hl, hq⟩
  · exact ⟨[], v, h1, h2, by simp⟩
  · obtain ⟨l, rfl, k1⟩ := strs_of els hl.symm hq
    refine ⟨l, v, h1, h2, ?_⟩
    rw [hx]; unfold Rows.uptoBulk; omega
theorem two_cells {cs : List Value} (h : cs.length = 2) : ∃ a b, cs = [a, b] := by
  match cs, h with
  | [a, b], _ => exact ⟨a, b, rfl⟩
theorem whos_of {ds : List D} (els : List (DataW H)) : ds.length = els.length → (∀ (i : Nat) d, ds[i]? = some d → ∃ y, els[i]? = some y ∧ ∃ r : Who, d.canon = encWho r ∧ r.nm.length ≤ Rows.uptoBulk y ∧ r.cl.length ≤ Rows.uptoBulk y) →
    ∃ l : List Who, D.canonL ds = l.map encWho ∧ l.length ≤ Rows.uptoBulkAll els ∧ ∀ r, r ∈ l → r.nm.length ≤ Rows.uptoBulkAll els ∧ r.cl.length ≤ Rows.uptoBulkAll els := by
  induction ds generalizing els with
  | nil => exact fun _ _ => ⟨[], rfl, by simp, fun r hr => by cases hr⟩
  | cons d ds ih =>
    intro hl h
    have hbl := bulk_len els
    cases els with
    | nil => simp at hl
    | cons e els =>
      obtain ⟨y, hy, r, hr, hb, hb2⟩ := h 0 d rfl
      simp only [List.getElem?_cons_zero, Option.some.injEq] at hy
      subst hy
      obtain ⟨l, hl1, hl2, hl3⟩ := ih els (by simpa using hl) fun i d hi => by
        obtain ⟨y, hy, q⟩ := h (i + 1) d (by simpa using hi)
        exact ⟨y, by simpa using hy, q⟩
      have hl4 : l.length = ds.length := by
        have := congrArg List.length hl1
        have e : ∀ ds : List D, (D.canonL ds).length = ds.length := by
          intro ds
          induction ds with
          | nil => rfl
          | cons a b ih => simp [D.canonL, ih]
        rw [e] at this
        simpa using this.symm
      refine ⟨r :: l, by rw [canonL_cons, hr, hl1]; rfl, ?_, fun q hq => ?_⟩
      · simp only [List.length_cons] at hl hbl ⊢; omega
      · unfold Rows.uptoBulkAll
        rcases List.mem_cons.1 hq with rfl | hq
        · omega
        · have := hl3 q hq; omega
theorem arg_who {fuel : Nat} {cs : List Value} {x : DataW H × List MemPlace} (h : DataW.trod enc Tryz.prog w 0 spare held fuel 26 cs = some x) :
    ∃ (d : D) (v : Value), cs = [v] ∧ Rep (g0 w) w d v ∧ ∃ p : List Who, d.canon = encL 2 (p.map encWho) ∧ p.length ≤ Rows.uptoBulk x.1 ∧ ∀ r, r ∈ p → r.nm.length ≤ Rows.uptoBulk x.1 ∧ r.cl.length ≤ Rows.uptoBulk x.1 := by
  obtain ⟨ds, v, h1, h2, h3, h4⟩ := slice_rep Tryz.underlying26 (n := 2) (by kernel_rfl) (by omega) h (fun d y => ∃ r : Who, d.canon = encWho r ∧ r.nm.length ≤ Rows.uptoBulk y ∧ r.cl.length ≤ Rows.uptoBulk y) (by
    intro fu cells y hl hy
    obtain ⟨a, b, rfl⟩ := two_cells hl
    obtain ⟨_, fu', xs, hxl, hxa, hf⟩ := trod_struct Tryz.underlying55 hy
    obtain ⟨y0, g0', t0⟩ := hf 0 _ rfl
    obtain ⟨y1, g1', t1⟩ := hf 1 _ rfl
    have c9 : Tryz.prog.cellsOf 9 = 1 := by kernel_rfl
    have c33 : Tryz.prog.cellsOf 33 = 1 := by kernel_rfl
    simp only [c9, c33] at t0 t1
    obtain ⟨s, v1, e0, _, _, r0, b0⟩ := arg_str t0
    obtain ⟨l, v2, e1, r1, b1⟩ := arg_strs t1
    simp only [List.drop_zero, List.take_succ_cons, List.take_zero, List.drop_succ_cons, List.cons.injEq, and_true] at e0 e1
    subst e0 e1
    refine ⟨.agg [.str s, .sl .sh 1 (l.map .str)], .agg #[a, b], rfl, ⟨rfl, fun z hz => ?_⟩, ?_, ⟨s, l⟩, ?_, ?_, ?_⟩
    · have : z = a ∨ z = b := by simpa [Value.cells] using hz
      rcases this with rfl | rfl
      · exact (one_cell r0 (.inr ⟨_, rfl⟩)).1
      · exact (one_cell r1 (.inl ⟨_, _, _, rfl⟩)).1
    · unfold Rep
      refine ⟨_, rfl, ?_⟩
      unfold RepL
      refine ⟨_, _, rfl, r0, ?_⟩
      unfold RepL
      refine ⟨_, _, rfl, r1, ?_⟩
      unfold RepL
      rfl
    · unfold encWho
      simp only [D.canon, D.canonL, (plainStrs l).canon]
      cases l <;> rfl
    · rw [hxa]
      match xs, hxl, g0' with
      | [z0, z1], _, p0 =>
        simp only [List.getElem?_cons_zero, Option.some.injEq] at p0
        subst p0
        simp only [List.map_cons, List.map_nil, Rows.uptoBulk, Rows.uptoBulkAll]
        omega
    · rw [hxa]
      match xs, hxl, g1' with
      | [z0, z1], _, p0 =>
        simp only [List.getElem?_cons_succ, List.getElem?_cons_zero, Option.some.injEq] at p0
        subst p0
        simp only [List.map_cons, List.map_nil, Rows.uptoBulk, Rows.uptoBulkAll]
        omega)
  rcases h4 with ⟨hx, rfl⟩ | ⟨els, rest, hx, hl, hq⟩
  · exact ⟨_, v, h1, h2, [], rfl, by simp, fun r hr => by cases hr⟩
  · obtain ⟨l, k0, k1, k2⟩ := whos_of els hl.symm hq
    refine ⟨_, v, h1, h2, l, by rw [canon_sl', k0], ?_, fun r hr => ?_⟩
    · rw [hx]; unfold Rows.uptoBulk; omega
    · rw [hx]; unfold Rows.uptoBulk; have := k2 r hr; omega
end Go.Vm.Rx
