/- The words of an expression: the reference's text. -/
import Derived.Test.YtmaipfiikbcfmaaDoorRxS38
import Derived.Test.YtmaipfiikbcfmaaDoorRxS14
set_option linter.all false
namespace Go.Vm.Rx
open Go Go.Proofs P
set_option linter.unusedVariables false
set_option linter.unusedSimpArgs false
set_option linter.unusedSectionVars false
set_option maxRecDepth 10000
set_option maxHeartbeats 2000000
/-- which kinds stand in parentheses -/
def RSpec (r : Rx) (c : Nat) (a b : Int) : Prop := ∀ A, Tot (RowOut A 1 ((r.say c).map .str)) (f41 mL (Run Tryd.prog rxA) (Dcall Tryd.prog rxA) (encRx r) (.int .i64 a) (.int .i64 b) A)
theorem RSpec.get {r : Rx} {c : Nat} {a b : Int} (h : RSpec r c a b) (A : St) : ∃ o, AccOk o 1 ((r.say c).map .str) ∧ f41 mL (Run Tryd.prog rxA) (Dcall Tryd.prog rxA) (encRx r) (.int .i64 a) (.int .i64 b) A = some (.ret (accD o A.length 1 ((r.say c).map .str)), accA o A ((r.say c).map .str)) := by
  obtain ⟨_, h1, o, ho, rfl⟩ := h A
  exact ⟨o, ho, h1⟩
end Go.Vm.Rx
