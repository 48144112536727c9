/- RxS67, RxS68, RxS73 in one text. -/
import Derived.Test.YtagmpieoalkneaaGreatDoorRxS66
import Derived.Test.YtagmpieoalkneaaGreatDoorRxS72
set_option linter.all false
/- The reference's reader of a line: all of it. -/
namespace Go.Vm.Rx
open Go Go.Proofs P
set_option maxRecDepth 10000
set_option maxHeartbeats 4000000
end Go.Vm.Rx

/- The reference's reader of texts of invariants. -/
namespace Go.Vm.Rx
open Go Go.Proofs P
set_option maxRecDepth 10000
set_option maxHeartbeats 4000000
theorem ivc0 (v:Iv):ofCells false (ivC v) 0 1=some (.str v.nm):=rfl
theorem ivcA (v:Iv):ofCells true (ivC v) 0 9=some (encIv v):=rfl
end Go.Vm.Rx

/- The program's reader of texts of invariants: is a name there,what is caught. -/
namespace Go.Vm.Rx
open Go Go.Proofs P
set_option maxRecDepth 10000
set_option maxHeartbeats 4000000
end Go.Vm.Rx
