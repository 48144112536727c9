/- VmArg, VmArg2, VmArg3 in one text. -/
import Derived.Test.YtikjlgcbcljehaaGreatDoorVmSimp
import GoSem.ClaimChange
import Derived.Test.YtikjlgcbcljehaaGreatDoorVmPure4
set_option linter.all false
/- How an argument's reading opens, one level at a time. -/
namespace Go.Vm
open Go.RowKit
set_option linter.unusedVariables false
variable {H : Type} {enc : TypeId × Value → H} {P : Program} {w : World} {base : Nat} {spare : Nat → Bool} {held : Bool}

theorem mapM_some {α β : Type} {f : α → Option β} : ∀ {l : List α} {r : List β}, l.mapM f = some r → r.length = l.length ∧ ∀ (i : Nat) a, l[i]? = some a → ∃ b, r[i]? = some b ∧ f a = some b
  | [], r, h => by
    simp only [List.mapM_nil, Option.pure_def, Option.some.injEq] at h
    subst h
    exact ⟨rfl, fun i a h => by simp at h⟩
  | x :: l, r, h => by
    simp only [List.mapM_cons, Option.bind_eq_bind, Option.bind_eq_some_iff, Option.pure_def, Option.some.injEq] at h
    obtain ⟨b, hb, r', hr, rfl⟩ := h
    obtain ⟨h1, h2⟩ := mapM_some hr
    refine ⟨by simp [h1], fun i a hi => ?_⟩
    cases i with
    | zero =>
      simp only [List.getElem?_cons_zero, Option.some.injEq] at hi
      subst hi
      exact ⟨b, rfl, hb⟩
    | succ i => exact h2 i a (by simpa using hi)
theorem trod_int {k : IntKind} {t : TypeId} (hu : P.underlying t = some (.int k)) {fuel : Nat} {cs : List Value} {x : DataW H × List MemPlace} (h : DataW.trod enc P w base spare held fuel t cs = some x) :
    ∃ n, cs = [.int k n] ∧ (Lit.int k n).wf = true ∧ x.1 = .lit (.int k n) := by
  cases fuel with
  | zero => cases h
  | succ fuel =>
    unfold DataW.trod at h
    rw [hu] at h
    simp only at h
    split at h
    all_goals (first | (simp_all; done) | skip)
    all_goals (split at h <;> simp_all)
    all_goals (subst h; rfl)
theorem trod_slice {e t : TypeId} (hu : P.underlying t = some (.slice e)) {fuel : Nat} {cs : List Value} {x : DataW H × List MemPlace} (h : DataW.trod enc P w base spare held fuel t cs = some x) :
    (cs = [.slice none 0 0] ∧ x.1 = .nil) ∨ ∃ a len cap fu, ∃ elems : List (DataW H × List MemPlace), ∃ rest, cs = [.slice (some a) len cap] ∧ len ≤ cap ∧ cap ≤ maxLen ∧ elems.length = len ∧ x.1 = .slice (elems.map (·.1)) rest ∧
      ∀ i, i < len → ∃ cells y, w.cells? base (a.add (i * P.cellsOf e)) (P.cellsOf e) = some cells ∧ elems[i]? = some y ∧ DataW.trod enc P w base spare held fu e cells = some y := by
  cases fuel with
  | zero => cases h
  | succ fuel =>
    unfold DataW.trod at h
    rw [hu] at h
    simp only at h
    split at h
    all_goals (first | (simp_all; done) | skip)
    · left
      simp only [Option.some.injEq] at h
      subst h
      exact ⟨rfl, rfl⟩
    · rename_i e' a len cap he
      simp only [Option.some.injEq, TypeDesc.slice.injEq] at he
      subst he
      right
      split at h
      · rename_i hc
        simp only [Option.bind_eq_some_iff, Option.map_eq_some_iff] at h
        obtain ⟨elems, h1, rest, h2, rfl⟩ := h
        obtain ⟨h3, h4⟩ := mapM_some h1
        refine ⟨a, len, cap, fuel, elems, rest.map (·.1), rfl, hc.2.1, hc.2.2, by simpa using h3, rfl, fun i hi => ?_⟩
        obtain ⟨y, hy1, hy2⟩ := h4 i i (by simp [hi])
        simp only [Option.bind_eq_some_iff] at hy2
        obtain ⟨cells, hc1, hc2⟩ := hy2
        exact ⟨cells, y, hc1, hy1, hc2⟩
      · cases h
theorem trod_struct {fs : Array Field} {t : TypeId} (hu : P.underlying t = some (.struct fs)) {fuel : Nat} {cs : List Value} {x : DataW H × List MemPlace} (h : DataW.trod enc P w base spare held fuel t cs = some x) :
    cs.length = P.cellsOf t ∧ ∃ fu, ∃ xs : List (DataW H × List MemPlace), xs.length = fs.toList.length ∧ x.1 = .agg (xs.map (·.1)) ∧
      ∀ (i : Nat) f, fs.toList[i]? = some f → ∃ y, xs[i]? = some y ∧ DataW.trod enc P w base spare held fu f.type ((cs.drop f.offset).take (P.cellsOf f.type)) = some y := by
  cases fuel with
  | zero => cases h
  | succ fuel =>
    unfold DataW.trod at h
    rw [hu] at h
    simp only at h
    split at h
    all_goals (first | (simp_all; done) | skip)
    rename_i hl
    simp only [Option.map_eq_some_iff] at h
    obtain ⟨xs, h1, rfl⟩ := h
    obtain ⟨h3, h4⟩ := mapM_some h1
    exact ⟨hl, fuel, xs, h3, rfl, fun i f hf => h4 i f hf⟩
end Go.Vm

/- Slices among the arguments stand for rows of data. -/
namespace Go.Vm
open Go.RowKit
set_option linter.unusedVariables false
variable {H : Type} {enc : TypeId × Value → H} {P : Program} {w : World} {spare : Nat → Bool} {held : Bool}

theorem cells_some {base n : Nat} {a : Addr} {cells : List Value} (h : w.cells? base a n = some cells) : cells.length = n ∧ ∀ j, j < n → ∃ c, cells[j]? = some c ∧ w.cell? (a.add j) = some c := by
  unfold World.cells? at h
  split at h
  · obtain ⟨h1, h2⟩ := mapM_some h
    refine ⟨by simpa using h1, fun j hj => ?_⟩
    obtain ⟨c, hc1, hc2⟩ := h2 j j (by simp [hj])
    exact ⟨c, hc1, hc2⟩
  · cases h
theorem cell_lt {a : Addr} {c : Value} (h : w.cell? a = some c) : a.block < w.heap.size ∧ a.spot = none := by
  unfold World.cell? at h
  split at h
  · rename_i cs x y hb
    split at h
    · cases h
    · rename_i hs
      refine ⟨(Array.getElem?_eq_some_iff.1 hb).1, ?_⟩
      cases hsp : a.spot with
      | none => rfl
      | some z => simp [hsp] at hs
  · cases h
/-- what the arguments stand for at the start: all that there is stays -/
def g0 (w : World) : Gh := { base := w.heap.size, S := fun _ _ => False, len := 0, m := fun _ => .none }
theorem slice_rep {e t : TypeId} (hu : P.underlying t = some (.slice e)) {n : Nat} (hn : P.cellsOf e = n) (hn0 : 0 < n) {fuel : Nat} {cs : List Value} {x : DataW H × List MemPlace}
    (h : DataW.trod enc P w 0 spare held fuel t cs = some x) (Q : D → DataW H → Prop)
    (hE : ∀ fu cells y, cells.length = n → DataW.trod enc P w 0 spare held fu e cells = some y → ∃ d v, v.cells.toList = cells ∧ VC n v ∧ Rep (g0 w) w d v ∧ Q d y.1) :
    ∃ ds v, cs = [v] ∧ Rep (g0 w) w (.sl .sh n ds) v ∧ ds.length ≤ maxLen ∧ ((x.1 = .nil ∧ ds = []) ∨ ∃ els rest, x.1 = .slice els rest ∧ els.length = ds.length ∧ ∀ (i : Nat) d, ds[i]? = some d → ∃ y, els[i]? = some y ∧ Q d y) := by
  rcases trod_slice hu h with ⟨rfl, hx⟩ | ⟨a, len, cap, fu, elems, rest, rfl, hlc, hcm, hel, hx, hall⟩
  · refine ⟨[], _, rfl, ?_, Nat.zero_le _, .inl ⟨hx, rfl⟩⟩
    unfold Rep
    exact ⟨none, 0, rfl, Nat.le_refl _, trivial, fun h => absurd rfl h⟩
  · rw [hn] at hall
    have hch : ∀ i, i < len → ∃ d, ∃ v : Value, ∃ y : DataW H × List MemPlace, elems[i]? = some y ∧ VC n v ∧ Rep (g0 w) w d v ∧ Q d y.1 ∧ ∀ j, j < n → w.cell? ((a.add (i * n)).add j) = v.cells[j]? := by
      intro i hi
      obtain ⟨cells, y, h1, h2, h3⟩ := hall i hi
      obtain ⟨h4, h5⟩ := cells_some h1
      obtain ⟨d, v, h6, h7, h8, h9⟩ := hE fu cells y h4 h3
      refine ⟨d, v, y, h2, h7, h8, h9, fun j hj => ?_⟩
      obtain ⟨c, hc1, hc2⟩ := h5 j hj
      rw [hc2, ← Array.getElem?_toList, h6, hc1]
    have hds : ∃ ds : List D, ds.length = len ∧ ∀ i d, ds[i]? = some d → ∃ v : Value, ∃ y : DataW H × List MemPlace, elems[i]? = some y ∧ VC n v ∧ Rep (g0 w) w d v ∧ Q d y.1 ∧ ∀ j, j < n → w.cell? ((a.add (i * n)).add j) = v.cells[j]? := by
      clear hall hx hel hlc hcm h
      induction len with
      | zero => exact ⟨[], rfl, fun i d h => by simp at h⟩
      | succ len ih =>
        obtain ⟨ds, h1, h2⟩ := ih fun i hi => hch i (by omega)
        obtain ⟨d, v, y, h3⟩ := hch len (by omega)
        refine ⟨ds ++ [d], by simp [h1], fun i d' hi => ?_⟩
        rw [List.getElem?_append] at hi
        split at hi
        · exact h2 i d' hi
        · rename_i hni
          have : i = len := by
            have := (List.getElem?_eq_some_iff.1 hi).1
            simp at this
            omega
          subst this
          rw [h1] at hi
          simp at hi
          subst hi
          exact ⟨v, y, h3⟩
    obtain ⟨ds, hl, hd⟩ := hds
    refine ⟨ds, _, rfl, ?_, by omega, .inr ⟨_, rest, hx, by simp [hel, hl], fun i d hi => ?_⟩⟩
    · unfold Rep
      refine ⟨some a, cap, by rw [hl], by omega, trivial, fun hne => ?_⟩
      have h00 : 0 < ds.length := List.length_pos_iff.2 hne
      have hspot : a.spot = none := by
        obtain ⟨v, y, _, hvc, _, _, hc⟩ := hd 0 ds[0] (List.getElem?_eq_getElem h00)
        have := hc 0 hn0
        have hv0 : ∃ u, v.cells[0]? = some u := ⟨v.cells[0]'(by rw [hvc.1]; exact hn0), Array.getElem?_eq_getElem _⟩
        obtain ⟨u, hu⟩ := hv0
        rw [hu] at this
        have := (cell_lt this).2
        revert this
        unfold Addr.add
        split <;> simp_all
      obtain ⟨b, off, sp⟩ := a
      simp only at hspot
      subst hspot
      refine ⟨b, off, rfl, RepRow.of_get fun i d hi => ?_⟩
      obtain ⟨v, y, _, hvc, hr, _, hc⟩ := hd i d hi
      refine ⟨v, hr, hvc, fun j hj => ?_⟩
      have := hc j hj
      rw [add_off, add_off] at this
      refine ⟨?_, this⟩
      have hv0 : ∃ u, v.cells[j]? = some u := ⟨v.cells[j]'(by rw [hvc.1]; exact hj), Array.getElem?_eq_getElem _⟩
      obtain ⟨u, hu⟩ := hv0
      rw [hu] at this
      exact .inl (cell_lt this).1
    · obtain ⟨v, y, hy, _, _, hq, _⟩ := hd i d hi
      exact ⟨y.1, by simp [hy], hq⟩
end Go.Vm

/- Arguments of a type that holds itself: one level at a time, with what is left of the fuel. -/
namespace Go.Vm
open Go.RowKit
set_option linter.unusedVariables false
section
variable {H : Type} {enc : TypeId × Value → H} {P : Program} {w : World} {base : Nat} {spare : Nat → Bool} {held : Bool}
theorem trod_string {t : TypeId} (hu : P.underlying t = some .string) {fuel : Nat} {cs : List Value} {x : DataW H × List MemPlace} (h : DataW.trod enc P w base spare held fuel t cs = some x) :
    ∃ s, cs = [.string s] ∧ x.1 = .lit (.string s.data.toList) := by
  cases fuel with
  | zero => cases h
  | succ fuel =>
    unfold DataW.trod at h
    rw [hu] at h
    simp only at h
    split at h
    all_goals (first | (simp_all; done) | skip)
    all_goals (split at h <;> simp_all)
    all_goals (subst h; rfl)
theorem trod_slice_f {e t : TypeId} (hu : P.underlying t = some (.slice e)) {fuel : Nat} {cs : List Value} {x : DataW H × List MemPlace} (h : DataW.trod enc P w base spare held (fuel + 1) t cs = some x) :
    (cs = [.slice none 0 0] ∧ x.1 = .nil) ∨ ∃ a len cap, ∃ elems : List (DataW H × List MemPlace), ∃ rest, cs = [.slice (some a) len cap] ∧ len ≤ cap ∧ cap ≤ maxLen ∧ elems.length = len ∧ x.1 = .slice (elems.map (·.1)) rest ∧
      ∀ i, i < len → ∃ cells y, w.cells? base (a.add (i * P.cellsOf e)) (P.cellsOf e) = some cells ∧ elems[i]? = some y ∧ DataW.trod enc P w base spare held fuel e cells = some y := by
    unfold DataW.trod at h
    rw [hu] at h
    simp only at h
    split at h
    all_goals (first | (simp_all; done) | skip)
    · left
      simp only [Option.some.injEq] at h
      subst h
      exact ⟨rfl, rfl⟩
    · rename_i e' a len cap he
      simp only [Option.some.injEq, TypeDesc.slice.injEq] at he
      subst he
      right
      split at h
      · rename_i hc
        simp only [Option.bind_eq_some_iff, Option.map_eq_some_iff] at h
        obtain ⟨elems, h1, rest, h2, rfl⟩ := h
        obtain ⟨h3, h4⟩ := mapM_some h1
        refine ⟨a, len, cap, elems, rest.map (·.1), rfl, hc.2.1, hc.2.2, by simpa using h3, rfl, fun i hi => ?_⟩
        obtain ⟨y, hy1, hy2⟩ := h4 i i (by simp [hi])
        simp only [Option.bind_eq_some_iff] at hy2
        obtain ⟨cells, hc1, hc2⟩ := hy2
        exact ⟨cells, y, hc1, hy1, hc2⟩
      · cases h
theorem trod_struct_f {fs : Array Field} {t : TypeId} (hu : P.underlying t = some (.struct fs)) {fuel : Nat} {cs : List Value} {x : DataW H × List MemPlace} (h : DataW.trod enc P w base spare held (fuel + 1) t cs = some x) :
    cs.length = P.cellsOf t ∧ ∃ xs : List (DataW H × List MemPlace), xs.length = fs.toList.length ∧ x.1 = .agg (xs.map (·.1)) ∧
      ∀ (i : Nat) f, fs.toList[i]? = some f → ∃ y, xs[i]? = some y ∧ DataW.trod enc P w base spare held fuel f.type ((cs.drop f.offset).take (P.cellsOf f.type)) = some y := by
    unfold DataW.trod at h
    rw [hu] at h
    simp only at h
    split at h
    all_goals (first | (simp_all; done) | skip)
    rename_i hl
    simp only [Option.map_eq_some_iff] at h
    obtain ⟨xs, h1, rfl⟩ := h
    obtain ⟨h3, h4⟩ := mapM_some h1
    exact ⟨hl, xs, h3, rfl, fun i f hf => h4 i f hf⟩
end
section
variable {H : Type} {enc : TypeId × Value → H} {P : Program} {w : World} {spare : Nat → Bool} {held : Bool}
theorem slice_rep_f {e t : TypeId} (hu : P.underlying t = some (.slice e)) {n : Nat} (hn : P.cellsOf e = n) (hn0 : 0 < n) {fuel : Nat} {cs : List Value} {x : DataW H × List MemPlace}
    (h : DataW.trod enc P w 0 spare held (fuel + 1) t cs = some x) (Q : D → DataW H → Prop)
    (hE : ∀ cells y, cells.length = n → DataW.trod enc P w 0 spare held fuel e cells = some y → ∃ d v, v.cells.toList = cells ∧ VC n v ∧ Rep (g0 w) w d v ∧ Q d y.1) :
    ∃ ds v, cs = [v] ∧ Rep (g0 w) w (.sl .sh n ds) v ∧ ds.length ≤ maxLen ∧ ((x.1 = .nil ∧ ds = []) ∨ ∃ els rest, x.1 = .slice els rest ∧ els.length = ds.length ∧ ∀ (i : Nat) d, ds[i]? = some d → ∃ y, els[i]? = some y ∧ Q d y) := by
  rcases trod_slice_f hu h with ⟨rfl, hx⟩ | ⟨a, len, cap, elems, rest, rfl, hlc, hcm, hel, hx, hall⟩
  · refine ⟨[], _, rfl, ?_, Nat.zero_le _, .inl ⟨hx, rfl⟩⟩
    unfold Rep
    exact ⟨none, 0, rfl, Nat.le_refl _, trivial, fun h => absurd rfl h⟩
  · rw [hn] at hall
    have hch : ∀ i, i < len → ∃ d, ∃ v : Value, ∃ y : DataW H × List MemPlace, elems[i]? = some y ∧ VC n v ∧ Rep (g0 w) w d v ∧ Q d y.1 ∧ ∀ j, j < n → w.cell? ((a.add (i * n)).add j) = v.cells[j]? := by
      intro i hi
      obtain ⟨cells, y, h1, h2, h3⟩ := hall i hi
      obtain ⟨h4, h5⟩ := cells_some h1
      obtain ⟨d, v, h6, h7, h8, h9⟩ := hE cells y h4 h3
      refine ⟨d, v, y, h2, h7, h8, h9, fun j hj => ?_⟩
      obtain ⟨c, hc1, hc2⟩ := h5 j hj
      rw [hc2, ← Array.getElem?_toList, h6, hc1]
    have hds : ∃ ds : List D, ds.length = len ∧ ∀ i d, ds[i]? = some d → ∃ v : Value, ∃ y : DataW H × List MemPlace, elems[i]? = some y ∧ VC n v ∧ Rep (g0 w) w d v ∧ Q d y.1 ∧ ∀ j, j < n → w.cell? ((a.add (i * n)).add j) = v.cells[j]? := by
      clear hall hx hel hlc hcm h
      induction len with
      | zero => exact ⟨[], rfl, fun i d h => by simp at h⟩
      | succ len ih =>
        obtain ⟨ds, h1, h2⟩ := ih fun i hi => hch i (by omega)
        obtain ⟨d, v, y, h3⟩ := hch len (by omega)
        refine ⟨ds ++ [d], by simp [h1], fun i d' hi => ?_⟩
        rw [List.getElem?_append] at hi
        split at hi
        · exact h2 i d' hi
        · rename_i hni
          have : i = len := by
            have := (List.getElem?_eq_some_iff.1 hi).1
            simp at this
            omega
          subst this
          rw [h1] at hi
          simp at hi
          subst hi
          exact ⟨v, y, h3⟩
    obtain ⟨ds, hl, hd⟩ := hds
    refine ⟨ds, _, rfl, ?_, by omega, .inr ⟨_, rest, hx, by simp [hel, hl], fun i d hi => ?_⟩⟩
    · unfold Rep
      refine ⟨some a, cap, by rw [hl], by omega, trivial, fun hne => ?_⟩
      have h00 : 0 < ds.length := List.length_pos_iff.2 hne
      have hspot : a.spot = none := by
        obtain ⟨v, y, _, hvc, _, _, hc⟩ := hd 0 ds[0] (List.getElem?_eq_getElem h00)
        have := hc 0 hn0
        have hv0 : ∃ u, v.cells[0]? = some u := ⟨v.cells[0]'(by rw [hvc.1]; exact hn0), Array.getElem?_eq_getElem _⟩
        obtain ⟨u, hu⟩ := hv0
        rw [hu] at this
        have := (cell_lt this).2
        revert this
        unfold Addr.add
        split <;> simp_all
      obtain ⟨b, off, sp⟩ := a
      simp only at hspot
      subst hspot
      refine ⟨b, off, rfl, RepRow.of_get fun i d hi => ?_⟩
      obtain ⟨v, y, _, hvc, hr, _, hc⟩ := hd i d hi
      refine ⟨v, hr, hvc, fun j hj => ?_⟩
      have := hc j hj
      rw [add_off, add_off] at this
      refine ⟨?_, this⟩
      have hv0 : ∃ u, v.cells[j]? = some u := ⟨v.cells[j]'(by rw [hvc.1]; exact hj), Array.getElem?_eq_getElem _⟩
      obtain ⟨u, hu⟩ := hv0
      rw [hu] at this
      exact .inl (cell_lt this).1
    · obtain ⟨v, y, hy, _, _, hq, _⟩ := hd i d hi
      exact ⟨y.1, by simp [hy], hq⟩
end
end Go.Vm
