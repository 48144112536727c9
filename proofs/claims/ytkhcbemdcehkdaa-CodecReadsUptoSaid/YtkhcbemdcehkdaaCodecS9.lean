/- What the tests of a vector come to. -/
import Derived.Test.YtkhcbemdcehkdaaCodecS8
import Derived.Test.YtkhcbemdcehkdaaCodecF3
set_option linter.all false
namespace Go.Vm.Codec
open Go.Proofs
set_option linter.unusedVariables false
set_option linter.unusedSimpArgs false
set_option maxRecDepth 10000
set_option maxHeartbeats 1000000

abbrev Stamps := List (Int × Nat)
def stD (s : Int × Nat) : D := .agg [.int .i64 s.1, .int .u64 s.2]
def stampsD (v : Stamps) : List D := v.map stD
@[simp] theorem stampsD_length (v : Stamps) : (stampsD v).length = v.length := by simp [stampsD]
theorem shutL_st (n : Nat) (v : Stamps) : D.shutL n (stampsD v) = stampsD v := by
  rw [shutL_eq]; unfold stampsD; rw [List.map_map]
  congr 1
theorem index_st (o : Own) (v : Stamps) (i : Nat) (k : IntKind) (h : i < v.length) : indexAddrO 2 true (.sl o 2 (stampsD v)) (.int k (i : Int)) = some (.peek [.int .i64 v[i].1, .int .u64 v[i].2]) := by
  have : ∀ s : Int × Nat, (stD s).cellsT true = some [.int .i64 s.1, .int .u64 s.2] := fun s => rfl
  simp [indexAddrO, D.int?, esOk, stampsD, List.getElem?_eq_getElem h, this]
def isDev (d : Int) : Bool := decide (0 ≤ d) && decide (d < 256)
def risesB : Stamps → Bool
  | a :: b :: r => decide (a.1 < b.1) && risesB (b :: r)
  | _ => true
def vecOk (v : Stamps) : Bool := risesB v && !(v.any fun s => !isDev s.1)
end Go.Vm.Codec
