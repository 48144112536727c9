/- RxS15, RxS16 in one text. -/
import Derived.Test.YtikjlgcbcljehaaGreatDoorRxS14
import Derived.Test.YtikjlgcbcljehaaGreatDoorRxPure3
set_option linter.all false
/- The reference's reader of words: rows of alternatives and parts. -/
namespace Go.Vm.Rx
open Go Go.Proofs P
set_option linter.unusedVariables false
set_option linter.unusedSimpArgs false
set_option maxRecDepth 10000
set_option maxHeartbeats 2000000
section
variable (l : List Word) (i o b a x : Int)
end
variable {l : List Word} (hl : l.length ≤ 1000000) (hw : ∀ w, w ∈ l → w.t.length ≤ 100000000)
include hl
/-! alternatives -/
end Go.Vm.Rx

/- The reference's reader of words: parts in turn; the steps of the induction. -/
namespace Go.Vm.Rx
open Go Go.Proofs P
set_option linter.unusedVariables false
set_option linter.unusedSimpArgs false
set_option maxRecDepth 10000
set_option maxHeartbeats 400000
variable {l : List Word} (hl : l.length ≤ 1000000) (hw : ∀ w, w ∈ l → w.t.length ≤ 100000000)
include hl
end Go.Vm.Rx
