/- CodecT4, CodecT5 in one text. -/
import Derived.Test.YtkhcbemdcehkdaaCodecT3
set_option linter.all false
/- What the codec's reader of shares comes to. -/
namespace Go.Vm.Codec
open Go.Proofs
set_option linter.unusedVariables false
set_option linter.unusedSimpArgs false
set_option maxRecDepth 10000
set_option maxHeartbeats 4000000
/-- so many shares from a place on; or the place of the first fault, and where the reader stands then -/
def pSh (b : List UInt8) : Nat → Nat → Shares → Except (Nat × Nat) (Shares × Nat)
  | 0, i, v => .ok (v, i)
  | m + 1, i, v =>
    if i + 8 ≤ b.length then
      if num ((b.drop i).take 8) = 0 then .error (i, i + 8)
      else if i + 12 ≤ b.length then
        if num ((b.drop (i + 8)).take 4) ≤ 1048576 then
          if num ((b.drop (i + 8)).take 4) = 0 ∨ b.length < i + 12 + num ((b.drop (i + 8)).take 4) then .error (i + 8, i + 12)
          else pSh b m (i + 12 + num ((b.drop (i + 8)).take 4)) (v ++ [⟨num ((b.drop i).take 8), false, (b.drop (i + 12)).take (num ((b.drop (i + 8)).take 4))⟩])
        else .error (i + 8, i + 12)
      else .error (i + 8, i + 8)
    else .error (i, i)
end Go.Vm.Codec

/- What the codec's reader of shares comes to, all of it. -/
namespace Go.Vm.Codec
open Go.Proofs
set_option linter.unusedVariables false
set_option linter.unusedSimpArgs false
set_option maxRecDepth 10000
set_option maxHeartbeats 4000000
/-- shares from a place on -/
def pShs (b : List UInt8) (i : Nat) : Except (Nat × Nat) (Shares × Nat) :=
  if i + 2 ≤ b.length then if num ((b.drop i).take 2) ≤ 256 then pSh b (num ((b.drop i).take 2)) (i + 2) [] else .error (i, i + 2) else .error (i, i)
end Go.Vm.Codec
