/- Rows of words as one row: slices.Concat of texts. -/
import Derived.Test.YtmaipfiikbcfmaaDoorRxS37
import Derived.Test.YtmaipfiikbcfmaaDoorVmMat
set_option linter.all false
namespace Go.Vm.Rx
open Go Go.Proofs P
set_option linter.unusedVariables false
set_option linter.unusedSimpArgs false
set_option linter.unusedSectionVars false
set_option maxRecDepth 10000
set_option maxHeartbeats 2000000
end Go.Vm.Rx
