/- RxS26, RxS27, RxS28 in one text. -/
import Derived.Test.YtagmpieoalkneaaGreatDoorRxS25
set_option linter.all false
/- The program's reader of words: rows of parts. -/
namespace Go.Vm.Rx
open Go Go.Proofs P
set_option maxRecDepth 10000
set_option maxHeartbeats 1100000
variable {l:List Word} (hl:l.length≤1100000) (hw:∀ w,w ∈ l→w.t.length≤100000000)
include hl hw
end Go.Vm.Rx

/- The program's reader of words: repetitions. -/
namespace Go.Vm.Rx
open Go Go.Proofs P
set_option maxRecDepth 10000
set_option maxHeartbeats 1100000
variable {l:List Word} (hl:l.length≤1100000) (hw:∀ w,w ∈ l→w.t.length≤100000000)
include hl hw
end Go.Vm.Rx

/- The program's reader of words: atoms;all of it. -/
namespace Go.Vm.Rx
open Go Go.Proofs P
set_option maxRecDepth 10000
set_option maxHeartbeats 2000000
variable {l:List Word} (hl:l.length≤1100000) (hw:∀ w,w ∈ l→w.t.length≤100000000)
include hl hw
end Go.Vm.Rx
