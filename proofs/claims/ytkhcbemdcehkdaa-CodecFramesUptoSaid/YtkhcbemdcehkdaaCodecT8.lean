/- CodecBack over data. -/
import Derived.Test.YtkhcbemdcehkdaaCodecT7
import Derived.Test.YtkhcbemdcehkdaaCodecS23
import Derived.Test.YtkhcbemdcehkdaaCodecF4
set_option linter.all false
namespace Go.Vm.Codec
open Go.Proofs
set_option linter.unusedVariables false
set_option linter.unusedSimpArgs false
set_option maxRecDepth 10000
set_option maxHeartbeats 4000000
theorem stF2 (A : St) (s0 s1 : Slot) (x : Fr) (o : Own) : storeO true 6 (.ref (A.length + 2) 0) (x.D o) (A ++ [s0, s1, .cells [.int .u8 0, .int .u32 0, .int .u32 0, .int .u64 0, .int .u64 0, .sl .full 0 []]]) = some (A ++ [s0, s1, .cells (x.C o)]) := by
  unfold Fr.D frameD
  rw [storeA (cs := [.int .u8 0, .int .u32 0, .int .u32 0, .int .u64 0, .int .u64 0, .sl .full 0 []]) (by rw [get_app _ _ _ 2 (by omega)]; rfl) rfl rfl rfl, set_app _ _ 2 _ _ (by omega)]
  rfl
end Go.Vm.Codec
