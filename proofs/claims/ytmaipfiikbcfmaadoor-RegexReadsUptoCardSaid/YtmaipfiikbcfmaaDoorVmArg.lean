/- How an argument's reading opens, one level at a time. -/
import Derived.Test.YtmaipfiikbcfmaaDoorVmSimp
import GoSem.ClaimChange
set_option linter.all false
namespace Go.Vm
open Go.RowKit
set_option linter.unusedVariables false
variable {H : Type} {enc : TypeId × Value → H} {P : Program} {w : World} {base : Nat} {spare : Nat → Bool} {held : Bool}

theorem mapM_some {α β : Type} {f : α → Option β} : ∀ {l : List α} {r : List β}, l.mapM f = some r → r.length = l.length ∧ ∀ (i : Nat) a, l[i]? = some a → ∃ b, r[i]? = some b ∧ f a = some b
  | [], r, h => by
    simp only [List.mapM_nil, Option.pure_def, Option.some.injEq] at h
    subst h
    exact ⟨rfl, fun i a h => by simp at h⟩
  | x :: l, r, h => by
    simp only [List.mapM_cons, Option.bind_eq_bind, Option.bind_eq_some_iff, Option.pure_def, Option.some.injEq] at h
    obtain ⟨b, hb, r', hr, rfl⟩ := h
    obtain ⟨h1, h2⟩ := mapM_some hr
    refine ⟨by simp [h1], fun i a hi => ?_⟩
    cases i with
    | zero =>
      simp only [List.getElem?_cons_zero, Option.some.injEq] at hi
      subst hi
      exact ⟨b, rfl, hb⟩
    | succ i => exact h2 i a (by simpa using hi)
theorem trod_int {k : IntKind} {t : TypeId} (hu : P.underlying t = some (.int k)) {fuel : Nat} {cs : List Value} {x : DataW H × List MemPlace} (h : DataW.trod enc P w base spare held fuel t cs = some x) :
    ∃ n, cs = [.int k n] ∧ (Lit.int k n).wf = true ∧ x.1 = .lit (.int k n) := by
  cases fuel with
  | zero => cases h
  | succ fuel =>
    unfold DataW.trod at h
    rw [hu] at h
    simp only at h
    split at h
    all_goals (first | (simp_all; done) | skip)
    all_goals (split at h <;> simp_all)
    all_goals (subst h; rfl)
theorem trod_slice {e t : TypeId} (hu : P.underlying t = some (.slice e)) {fuel : Nat} {cs : List Value} {x : DataW H × List MemPlace} (h : DataW.trod enc P w base spare held fuel t cs = some x) :
    (cs = [.slice none 0 0] ∧ x.1 = .nil) ∨ ∃ a len cap fu, ∃ elems : List (DataW H × List MemPlace), ∃ rest, cs = [.slice (some a) len cap] ∧ len ≤ cap ∧ cap ≤ maxLen ∧ elems.length = len ∧ x.1 = .slice (elems.map (·.1)) rest ∧
      ∀ i, i < len → ∃ cells y, w.cells? base (a.add (i * P.cellsOf e)) (P.cellsOf e) = some cells ∧ elems[i]? = some y ∧ DataW.trod enc P w base spare held fu e cells = some y := by
  cases fuel with
  | zero => cases h
  | succ fuel =>
    unfold DataW.trod at h
    rw [hu] at h
    simp only at h
    split at h
    all_goals (first | (simp_all; done) | skip)
    · left
      simp only [Option.some.injEq] at h
      subst h
      exact ⟨rfl, rfl⟩
    · rename_i e' a len cap he
      simp only [Option.some.injEq, TypeDesc.slice.injEq] at he
      subst he
      right
      split at h
      · rename_i hc
        simp only [Option.bind_eq_some_iff, Option.map_eq_some_iff] at h
        obtain ⟨elems, h1, rest, h2, rfl⟩ := h
        obtain ⟨h3, h4⟩ := mapM_some h1
        refine ⟨a, len, cap, fuel, elems, rest.map (·.1), rfl, hc.2.1, hc.2.2, by simpa using h3, rfl, fun i hi => ?_⟩
        obtain ⟨y, hy1, hy2⟩ := h4 i i (by simp [hi])
        simp only [Option.bind_eq_some_iff] at hy2
        obtain ⟨cells, hc1, hc2⟩ := hy2
        exact ⟨cells, y, hc1, hy1, hc2⟩
      · cases h
theorem trod_struct {fs : Array Field} {t : TypeId} (hu : P.underlying t = some (.struct fs)) {fuel : Nat} {cs : List Value} {x : DataW H × List MemPlace} (h : DataW.trod enc P w base spare held fuel t cs = some x) :
    cs.length = P.cellsOf t ∧ ∃ fu, ∃ xs : List (DataW H × List MemPlace), xs.length = fs.toList.length ∧ x.1 = .agg (xs.map (·.1)) ∧
      ∀ (i : Nat) f, fs.toList[i]? = some f → ∃ y, xs[i]? = some y ∧ DataW.trod enc P w base spare held fu f.type ((cs.drop f.offset).take (P.cellsOf f.type)) = some y := by
  cases fuel with
  | zero => cases h
  | succ fuel =>
    unfold DataW.trod at h
    rw [hu] at h
    simp only at h
    split at h
    all_goals (first | (simp_all; done) | skip)
    rename_i hl
    simp only [Option.map_eq_some_iff] at h
    obtain ⟨xs, h1, rfl⟩ := h
    obtain ⟨h3, h4⟩ := mapM_some h1
    exact ⟨hl, fuel, xs, h3, rfl, fun i f hf => h4 i f hf⟩
end Go.Vm
