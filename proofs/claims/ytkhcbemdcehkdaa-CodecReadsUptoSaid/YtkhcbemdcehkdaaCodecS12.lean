/- Which results may be: both tests come to the same. -/
import Derived.Test.YtkhcbemdcehkdaaCodecS11
set_option linter.all false
namespace Go.Vm.Codec
open Go.Proofs
set_option linter.unusedVariables false
set_option linter.unusedSimpArgs false
set_option maxRecDepth 10000
set_option maxHeartbeats 1000000

def sizeE (n : Nat) : Int := if n > 1048576 then 2 else 0
def dumpE (n : Nat) : Shares → Int
  | [] => sizeE n
  | s :: r => if s.d.length = 0 then 40 else dumpE (n + (12 + s.d.length)) r
def cntE (n : Nat) (all : Shares) : Shares → Int
  | [] => dumpE n all
  | s :: r => if s.c = 0 then 80 else cntE n all r
def chkE (inv node : Int) (v : Stamps) (sh : Shares) : Int :=
  if inv < 0 ∨ 64 ≤ inv ∨ node < 0 ∨ 16384 ≤ node then 1 else if vecOk v then (if sh.length > 256 then 3 else cntE (11 + 10 * v.length) sh sh) else 160
end Go.Vm.Codec
