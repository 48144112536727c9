/- RxS20, RxS21, RxS22 in one text. -/
import Derived.Test.YtmaipfiikbcfmaaDoorRxS19
import Derived.Test.YtmaipfiikbcfmaaDoorRxPure3
set_option linter.all false
/- What the reference reads of words. -/
namespace Go.Vm.Rx
open Go Go.Proofs P
set_option linter.unusedVariables false
set_option linter.unusedSimpArgs false
set_option maxRecDepth 10000
set_option maxHeartbeats 800000
variable {l : List Word} (hl : l.length ≤ 1000000) (hw : ∀ w, w ∈ l → w.t.length ≤ 100000000)
/-- an expression, a place and a fault -/
def readD (x : Rx × Nat × Int) : D := .tup [encRx x.1, .int .i64 (x.2.1 : Nat), .int .i64 x.2.2]
include hl hw
end Go.Vm.Rx

/- What the reference parses a text as. -/
namespace Go.Vm.Rx
open Go Go.Proofs P
set_option linter.unusedVariables false
set_option linter.unusedSimpArgs false
set_option maxRecDepth 10000
set_option maxHeartbeats 2000000
theorem idx_accD {α : Type} {f : α → D} {l : List α} {b : Option Nat} {n c : Nat} (hb : AccOk b n (l.map f)) {i : Nat} (h : i < l.length) (g : Bool) (k : IntKind) :
    indexAddrO n g (accD b c n (l.map f)) (.int k i) = mp ((f l[i]).cellsT g) .peek := by
  cases b with
  | none => simp [accD, indexAddrO, D.int?, esOk, mp, h]
  | some e =>
    rcases hb with hb | hb | ⟨_, h2⟩
    · cases hb
    · cases hb; simp [accD, indexAddrO, D.int?, esOk, mp, h]
    · simp only [List.map_eq_nil_iff] at h2; subst h2; simp at h
theorem readP_at {l : List Word} (hw : ∀ w, w ∈ l → w.t.length ≤ 100000000) : (readP l).2.1 ≤ l.length := by
  unfold readP
  obtain ⟨x, hx⟩ := (ends hw (8 * l.length + 4)).alt 0 0 (by omega) (by omega)
  have hfc := (facts hw (8 * l.length + 4)).alt 0 0 x (by omega) hx
  rw [hx]
  rcases x with ⟨a, c⟩ | ⟨r, j⟩
  · exact hfc.2.1
  · dsimp only
    split
    · exact Nat.le_of_lt ‹_›
    · split <;> exact Nat.zero_le _
theorem readP_no {l : List Word} (h : (readP l).2.2 ≠ 0) : (readP l).1 = Rx.no := by
  unfold readP at h ⊢
  split
  · rfl
  · rfl
  · rename_i r j hx
    rw [hx] at h
    dsimp only at h
    split
    · rfl
    · rename_i h1
      rw [if_neg h1] at h
      split
      · rename_i h2
        rw [if_pos h2] at h
        exact absurd rfl h
      · rfl
/-- an expression, a line, a column and a fault -/
def parseD (x : Rx × Int × Int × Int) : D := .tup [encRx x.1, .int .i64 x.2.1, .int .i64 x.2.2.1, .int .i64 x.2.2.2]
end Go.Vm.Rx

/- What the reference parses a text as: all of it. -/
namespace Go.Vm.Rx
open Go Go.Proofs P
set_option linter.unusedVariables false
set_option linter.unusedSimpArgs false
set_option maxRecDepth 10000
set_option maxHeartbeats 2000000
end Go.Vm.Rx
