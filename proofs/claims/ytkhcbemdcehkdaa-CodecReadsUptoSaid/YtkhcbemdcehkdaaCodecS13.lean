/- The reference's test of a result comes to the same. -/
import Derived.Test.YtkhcbemdcehkdaaCodecS12
set_option linter.all false
namespace Go.Vm.Codec
open Go.Proofs
set_option linter.unusedVariables false
set_option linter.unusedSimpArgs false
set_option maxRecDepth 10000
set_option maxHeartbeats 1000000

def dumpR (n : Nat) : Shares → Int
  | [] => sizeE n
  | s :: r => if s.d.length = 0 then 40 else dumpR n r
theorem dumpR_eq : ∀ (sh : Shares) (n : Nat), dumpE n sh = dumpR (n + szS sh) sh
  | [], n => rfl
  | s :: r, n => by
    rw [dumpE, dumpR, dumpR_eq r, szS]
    congr 2
    omega
def cntR (n : Nat) (all : Shares) : Shares → Int
  | [] => dumpR n all
  | s :: r => if s.c = 0 then 80 else cntR n all r
theorem cntR_eq (n : Nat) (all : Shares) : ∀ sh : Shares, cntE n all sh = cntR (n + szS all) all sh
  | [] => dumpR_eq all n
  | s :: r => by rw [cntE, cntR, cntR_eq n all r]
end Go.Vm.Codec
