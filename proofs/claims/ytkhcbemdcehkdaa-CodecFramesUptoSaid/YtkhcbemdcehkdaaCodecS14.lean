/- What the library's comparisons come to. -/
import Derived.Test.YtkhcbemdcehkdaaCodecS13
set_option linter.all false
namespace Go.Vm.Codec
open Go.Proofs
set_option linter.unusedVariables false
set_option linter.unusedSimpArgs false
set_option maxRecDepth 10000
set_option maxHeartbeats 1000000

end Go.Vm.Codec
