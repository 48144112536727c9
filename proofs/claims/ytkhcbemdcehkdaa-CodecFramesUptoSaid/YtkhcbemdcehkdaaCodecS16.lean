/- Both tests of sameness come to the same. -/
import Derived.Test.YtkhcbemdcehkdaaCodecS15
import Derived.Test.YtkhcbemdcehkdaaCodecF2
set_option linter.all false
namespace Go.Vm.Codec
open Go.Proofs
set_option linter.unusedVariables false
set_option linter.unusedSimpArgs false
set_option maxRecDepth 10000
set_option maxHeartbeats 1000000

structure RRes where
  i : Int
  n : Int
  vo : Own
  v : Stamps
  so : Own
  sh : Shares
def RRes.D (r : RRes) : D := resD r.i r.n r.vo r.v r.so r.sh
def RRes.C (r : RRes) : List Vm.D := [.int .i64 r.i, .int .i64 r.n, .sl r.vo 2 (stampsD r.v), .sl r.so 2 (sharesD r.sh)]
structure RRes.Ok (r : RRes) : Prop where
  v : r.v.length ≤ 9223372036854775807
  s : r.sh.length ≤ 9223372036854775807
  d : ∀ s ∈ r.sh, s.d.length ≤ 9223372036854775807
end Go.Vm.Codec
