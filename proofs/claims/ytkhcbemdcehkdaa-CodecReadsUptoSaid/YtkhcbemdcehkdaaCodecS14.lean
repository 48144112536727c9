/- What the library's comparisons come to. -/
import Derived.Test.YtkhcbemdcehkdaaCodecS13
set_option linter.all false
namespace Go.Vm.Codec
open Go.Proofs
set_option linter.unusedVariables false
set_option linter.unusedSimpArgs false
set_option maxRecDepth 10000
set_option maxHeartbeats 1000000

theorem dec_cons {α : Type} [DecidableEq α] {x y : α} {l m : List α} (h : x = y) : decide (x :: l = y :: m) = decide (l = m) := by
  subst h
  exact decide_eq_decide.2 ⟨fun e => by injection e, fun e => by rw [e]⟩
theorem dec_cons_ne {α : Type} [DecidableEq α] {x y : α} {l m : List α} (h : x ≠ y) : decide (x :: l = y :: m) = false := decide_eq_false fun e => h (by injection e)
theorem neq_st (l : Bool) (a c : Int) (b d : Nat) : binO .neq 102 l (.agg [.int .i64 a, .int .u64 b]) (.agg [.int .i64 c, .int .u64 d]) = some (.bool (!decide ((a, b) = (c, d)))) := by
  have h1 : binO .neq 102 l (.agg [.int .i64 a, .int .u64 b]) (.agg [.int .i64 c, .int .u64 d]) = some (.bool (!(a == c && ((b : Int) == (d : Int) && true)))) := by
    simp [binO, eqOf, eqAgg, eqCells, D.agg?, negIf]
  rw [h1]
  congr 3
  by_cases h : a = c <;> by_cases h' : b = d <;> simp [h, h']
  all_goals (try omega)
end Go.Vm.Codec
