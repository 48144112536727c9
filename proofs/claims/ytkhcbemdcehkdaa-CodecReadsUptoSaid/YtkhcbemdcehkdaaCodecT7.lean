/- ReadFrame over data, in one; two frames that are the same. -/
import Derived.Test.YtkhcbemdcehkdaaCodecP2
import Derived.Test.YtkhcbemdcehkdaaCodecS8
set_option linter.all false
namespace Go.Vm.Codec
open Go.Proofs
set_option linter.unusedVariables false
set_option linter.unusedSimpArgs false
set_option maxRecDepth 10000
set_option maxHeartbeats 4000000
def Fr.D (x : Fr) (o : Own) : Vm.D := frameD x.k x.f x.t x.s x.a o 1 x.body
def Fr.C (x : Fr) (o : Own) : List Vm.D := [.int .u8 x.k, .int .u32 x.f, .int .u32 x.t, .int .u64 x.s, .int .u64 x.a, .sl o 1 (strBytes x.body)]
theorem ld0 (A : St) (cs : List D) (T : St) (g : Bool) (n off : Nat) : loadO g n (.ref A.length off) (A ++ (.cells cs :: T)) = ofCells g cs off n := load_ref (by rw [get_app _ _ _ 0 (by omega)]; rfl)
theorem ld1 (A : St) (s0 : Slot) (cs : List D) (T : St) (g : Bool) (n off : Nat) : loadO g n (.ref (A.length + 1) off) (A ++ (s0 :: .cells cs :: T)) = ofCells g cs off n := load_ref (by rw [get_app _ _ _ 1 (by omega)]; rfl)
theorem eql_n (n : Nat) (l : Bool) (k : IntKind) (x : Int) : binO .eql n l (.int k x) (.int k x) = some (.bool true) := by
  simp [binO, eqOf, D.int?, intBinD, negIf]
end Go.Vm.Codec
