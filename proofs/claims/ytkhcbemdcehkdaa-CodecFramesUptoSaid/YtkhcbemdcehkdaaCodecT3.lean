/- CodecT1, CodecT2, CodecT3 in one text. -/
import Derived.Test.YtkhcbemdcehkdaaCodecS12
import Derived.Test.YtkhcbemdcehkdaaCodecF2
set_option linter.all false
/- The state of the codec's reader of results: three results, a reader, and what lies above. -/
namespace Go.Vm.Codec
open Go.Proofs
set_option linter.unusedVariables false
set_option linter.unusedSimpArgs false
set_option maxRecDepth 10000
set_option maxHeartbeats 1000000

end Go.Vm.Codec

/- What the codec's reader of stamps comes to. -/
namespace Go.Vm.Codec
open Go.Proofs
set_option linter.unusedVariables false
set_option linter.unusedSimpArgs false
set_option maxRecDepth 10000
set_option maxHeartbeats 4000000

def lastOk (v : Stamps) (d : Nat) : Bool := match v.getLast? with
  | none => true
  | some q => decide (q.1 < (d : Int))
/-- so many stamps from a place on; or the place of the first fault, and where the reader stands then -/
def pSt (b : List UInt8) : Nat → Nat → Stamps → Except (Nat × Nat) (Stamps × Nat)
  | 0, i, v => .ok (v, i)
  | m + 1, i, v => if i + 10 ≤ b.length then
      if num ((b.drop i).take 2) < 256 ∧ lastOk v (num ((b.drop i).take 2)) = true then pSt b m (i + 10) (v ++ [((num ((b.drop i).take 2) : Int), num ((b.drop (i + 2)).take 8))])
      else .error (i, i + 10)
    else .error (i, i)
end Go.Vm.Codec

/- What the codec's reader of stamps comes to, all of it. -/
namespace Go.Vm.Codec
open Go.Proofs
set_option linter.unusedVariables false
set_option linter.unusedSimpArgs false
set_option maxRecDepth 10000
set_option maxHeartbeats 4000000
/-- a vector from a place on -/
def pVec (b : List UInt8) (i : Nat) : Except (Nat × Nat) (Stamps × Nat) :=
  if i + 2 ≤ b.length then if num ((b.drop i).take 2) ≤ 256 then pSt b (num ((b.drop i).take 2)) (i + 2) [] else .error (i, i + 2) else .error (i, i)
end Go.Vm.Codec
