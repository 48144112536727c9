/- RxS32, RxS33, RxS34 in one text. -/
import Derived.Test.YtmaipfiikbcfmaaDoorRxS31
set_option linter.all false
/- Which expressions are the same: both texts' answers. -/
namespace Go.Vm.Rx
open Go Go.Proofs P
set_option linter.unusedVariables false
set_option linter.unusedSimpArgs false
set_option linter.unusedSectionVars false
set_option maxRecDepth 10000
set_option maxHeartbeats 2000000
end Go.Vm.Rx

/- Which expressions are the same: the program's answer. -/
namespace Go.Vm.Rx
open Go Go.Proofs P
set_option linter.unusedVariables false
set_option linter.unusedSimpArgs false
set_option linter.unusedSectionVars false
set_option maxRecDepth 10000
set_option maxHeartbeats 2000000
end Go.Vm.Rx

/- Laws of path expressions: what texts and words are read as, which expressions are the same. -/
namespace Go.Vm.Rx
open Go Go.Proofs P
set_option linter.unusedVariables false
set_option linter.unusedSimpArgs false
set_option linter.unusedSectionVars false
set_option maxRecDepth 10000
set_option maxHeartbeats 4000000
end Go.Vm.Rx
