/- RxS20, RxS21, RxS22 in one text. -/
import Derived.Test.YtikjlgcbcljehaaGreatDoorRxS19
import Derived.Test.YtikjlgcbcljehaaGreatDoorRxPure3
set_option linter.all false
/- What the reference reads of words. -/
namespace Go.Vm.Rx
open Go Go.Proofs P
set_option linter.unusedVariables false
set_option linter.unusedSimpArgs false
set_option maxRecDepth 10000
set_option maxHeartbeats 800000
variable {l : List Word} (hl : l.length ≤ 1000000) (hw : ∀ w, w ∈ l → w.t.length ≤ 100000000)
include hl hw
end Go.Vm.Rx

/- What the reference parses a text as. -/
namespace Go.Vm.Rx
open Go Go.Proofs P
set_option linter.unusedVariables false
set_option linter.unusedSimpArgs false
set_option maxRecDepth 10000
set_option maxHeartbeats 2000000
end Go.Vm.Rx

/- What the reference parses a text as: all of it. -/
namespace Go.Vm.Rx
open Go Go.Proofs P
set_option linter.unusedVariables false
set_option linter.unusedSimpArgs false
set_option maxRecDepth 10000
set_option maxHeartbeats 2000000
end Go.Vm.Rx
