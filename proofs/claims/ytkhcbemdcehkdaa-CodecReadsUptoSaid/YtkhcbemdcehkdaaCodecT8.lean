/- CodecBack over data. -/
import Derived.Test.YtkhcbemdcehkdaaCodecT7
import Derived.Test.YtkhcbemdcehkdaaCodecS23
import Derived.Test.YtkhcbemdcehkdaaCodecF4
set_option linter.all false
namespace Go.Vm.Codec
open Go.Proofs
set_option linter.unusedVariables false
set_option linter.unusedSimpArgs false
set_option maxRecDepth 10000
set_option maxHeartbeats 4000000
end Go.Vm.Codec
