/- What a frame among the arguments stands for. -/
import Derived.Test.YtkhcbemdcehkdaaCodecArg4
import Derived.Test.YtkhcbemdcehkdaaCodecT9
set_option linter.all false
namespace Go.Vm.Codec
open Go Go.Proofs Go.Proofs.Ytkhcbemdcehkdaa
set_option linter.unusedVariables false
set_option maxRecDepth 100000
variable {H : Type} {enc : TypeId × Value → H} {w : World} {spare : Nat → Bool} {held : Bool}

end Go.Vm.Codec
