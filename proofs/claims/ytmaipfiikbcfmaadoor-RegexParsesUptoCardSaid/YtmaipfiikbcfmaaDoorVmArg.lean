/- How an argument's reading opens, one level at a time. -/
import Derived.Test.YtmaipfiikbcfmaaDoorVmSimp
import GoSem.ClaimChange
set_option linter.all false
namespace Go.Vm
open Go.RowKit
set_option linter.unusedVariables false
variable {H : Type} {enc : TypeId × Value → H} {P : Program} {w : World} {base : Nat} {spare : Nat → Bool} {held : Bool}

end Go.Vm
