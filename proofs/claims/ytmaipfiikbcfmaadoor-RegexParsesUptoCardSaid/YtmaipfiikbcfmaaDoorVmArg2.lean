/- Slices among the arguments stand for rows of data. -/
import Derived.Test.YtmaipfiikbcfmaaDoorVmArg
import Derived.Test.YtmaipfiikbcfmaaDoorVmPure4
set_option linter.all false
namespace Go.Vm
open Go.RowKit
set_option linter.unusedVariables false
variable {H : Type} {enc : TypeId × Value → H} {P : Program} {w : World} {spare : Nat → Bool} {held : Bool}

/-- what the arguments stand for at the start: all that there is stays -/
def g0 (w : World) : Gh := { base := w.heap.size, S := fun _ _ => False, len := 0, m := fun _ => .none }
end Go.Vm
