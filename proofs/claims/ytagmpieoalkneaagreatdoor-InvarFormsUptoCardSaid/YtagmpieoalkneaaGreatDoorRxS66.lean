/- RxS69, RxS66 in one text. -/
import Derived.Test.YtagmpieoalkneaaGreatDoorVmVs
import Derived.Test.YtagmpieoalkneaaGreatDoorRxI6
import Derived.Test.YtagmpieoalkneaaGreatDoorRxOk
set_option linter.all false
/- The program's reader of a line: the devices. -/
namespace Go.Vm.Rx
open Go Go.Proofs P
set_option maxRecDepth 10000
set_option maxHeartbeats 4000000
section
variable (A:St) (k:Nat) (hk:k<A.length) (cs:List D) (L:St) (j:Nat) (acc:List Str)
include hk
end
end Go.Vm.Rx

/- The reference's reader of a line: from the devices on. -/
namespace Go.Vm.Rx
open Go Go.Proofs P
set_option maxRecDepth 10000
set_option maxHeartbeats 4000000
section
variable (nm pk nm' pk':Str) (ig ig':D) (h c n h' c' n':Int) (r:Rx)
end
end Go.Vm.Rx
