/- RxS38, RxS39 in one text. -/
import Derived.Test.YtikjlgcbcljehaaGreatDoorRxS37
import Derived.Test.YtikjlgcbcljehaaGreatDoorVmTab
import Derived.Test.YtikjlgcbcljehaaGreatDoorRxS14
set_option linter.all false
/- Rows of words as one row: slices.Concat of texts. -/
namespace Go.Vm.Rx
open Go Go.Proofs P
set_option linter.unusedVariables false
set_option linter.unusedSimpArgs false
set_option linter.unusedSectionVars false
set_option maxRecDepth 10000
set_option maxHeartbeats 2000000
end Go.Vm.Rx

/- The words of an expression: the reference's text. -/
namespace Go.Vm.Rx
open Go Go.Proofs P
set_option linter.unusedVariables false
set_option linter.unusedSimpArgs false
set_option linter.unusedSectionVars false
set_option maxRecDepth 10000
set_option maxHeartbeats 2000000
theorem kid_size {r k : Rx} (h : k ∈ r.ks) : k.size < r.size := by
  have := ins_kid h
  have h1 := Rx.size_eq r
  have hp := Rx.size_pos k
  unfold Rx.ins at this
  split at this
  · rename_i e; rw [e] at h; cases h
  · omega
end Go.Vm.Rx
