/- RxS70, RxS71, RxS72 in one text. -/
import Derived.Test.YtagmpieoalkneaaGreatDoorRxS66
import Derived.Test.YtagmpieoalkneaaGreatDoorRxS60
import Derived.Test.YtagmpieoalkneaaGreatDoorRxI6
set_option linter.all false
/- The program's reader of a line: a sign,and what stands before and behind it. -/
namespace Go.Vm.Rx
open Go Go.Proofs P
set_option maxRecDepth 10000
set_option maxHeartbeats 4000000
section
variable (A:St) (k:Nat) (l:List Word) (hl:LineOk l) (i:Nat) (hk:k<A.length) (hi:i≤100000000)
include hl hk hi
end
end Go.Vm.Rx

/- The program's reader of a line: all of it. -/
namespace Go.Vm.Rx
open Go Go.Proofs P
set_option maxRecDepth 10000
set_option maxHeartbeats 4000000
end Go.Vm.Rx

/- The program's reader of a line: the whole. -/
namespace Go.Vm.Rx
open Go Go.Proofs P
set_option maxRecDepth 10000
set_option maxHeartbeats 4000000
end Go.Vm.Rx
