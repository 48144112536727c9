/- RxS29, RxS30, RxS31 in one text. -/
import Derived.Test.YtikjlgcbcljehaaGreatDoorRxS28
set_option linter.all false
/- What the program reads of words. -/
namespace Go.Vm.Rx
open Go Go.Proofs P
set_option linter.unusedVariables false
set_option linter.unusedSimpArgs false
set_option linter.unusedSectionVars false
set_option maxRecDepth 10000
set_option maxHeartbeats 2000000
end Go.Vm.Rx

/- Rows as one row: slices.Concat. -/
namespace Go.Vm.Rx
open Go Go.Proofs P
set_option linter.unusedVariables false
set_option linter.unusedSimpArgs false
set_option linter.unusedSectionVars false
set_option maxRecDepth 10000
set_option maxHeartbeats 2000000
theorem bn_id {α : Type} (x : Option α) : (bn x fun a => some a) = x := by cases x <;> rfl
/-!PART-/
end Go.Vm.Rx

/- What the program parses a text as. -/
namespace Go.Vm.Rx
open Go Go.Proofs P
set_option linter.unusedVariables false
set_option linter.unusedSimpArgs false
set_option linter.unusedSectionVars false
set_option maxRecDepth 10000
set_option maxHeartbeats 4000000
end Go.Vm.Rx
