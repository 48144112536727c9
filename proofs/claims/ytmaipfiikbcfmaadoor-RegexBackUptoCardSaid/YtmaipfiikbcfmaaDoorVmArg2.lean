/- Slices among the arguments stand for rows of data. -/
import Derived.Test.YtmaipfiikbcfmaaDoorVmArg
import Derived.Test.YtmaipfiikbcfmaaDoorVmPure4
set_option linter.all false
namespace Go.Vm
open Go.RowKit
set_option linter.unusedVariables false
variable {H : Type} {enc : TypeId × Value → H} {P : Program} {w : World} {spare : Nat → Bool} {held : Bool}

theorem cells_some {base n : Nat} {a : Addr} {cells : List Value} (h : w.cells? base a n = some cells) : cells.length = n ∧ ∀ j, j < n → ∃ c, cells[j]? = some c ∧ w.cell? (a.add j) = some c := by
  unfold World.cells? at h
  split at h
  · obtain ⟨h1, h2⟩ := mapM_some h
    refine ⟨by simpa using h1, fun j hj => ?_⟩
    obtain ⟨c, hc1, hc2⟩ := h2 j j (by simp [hj])
    exact ⟨c, hc1, hc2⟩
  · cases h
theorem cell_lt {a : Addr} {c : Value} (h : w.cell? a = some c) : a.block < w.heap.size ∧ a.spot = none := by
  unfold World.cell? at h
  split at h
  · rename_i cs x y hb
    split at h
    · cases h
    · rename_i hs
      refine ⟨(Array.getElem?_eq_some_iff.1 hb).1, ?_⟩
      cases hsp : a.spot with
      | none => rfl
      | some z => simp [hsp] at hs
  · cases h
/-- what the arguments stand for at the start: all that there is stays -/
def g0 (w : World) : Gh := { base := w.heap.size, S := fun _ _ => False, len := 0, m := fun _ => .none }
end Go.Vm
