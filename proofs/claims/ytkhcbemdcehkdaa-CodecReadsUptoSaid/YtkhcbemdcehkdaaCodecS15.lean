/- What the codec's Same comes to. -/
import Derived.Test.YtkhcbemdcehkdaaCodecS14
set_option linter.all false
namespace Go.Vm.Codec
open Go.Proofs
set_option linter.unusedVariables false
set_option linter.unusedSimpArgs false
set_option maxRecDepth 10000
set_option maxHeartbeats 1000000

def key (s : Share) : Nat × List UInt8 := (s.c, s.d)
end Go.Vm.Codec
