/- What the reference's test of a vector comes to. -/
import Derived.Test.YtkhcbemdcehkdaaCodecS9
set_option linter.all false
namespace Go.Vm.Codec
open Go.Proofs
set_option linter.unusedVariables false
set_option linter.unusedSimpArgs false
set_option maxRecDepth 10000
set_option maxHeartbeats 1000000

def okF : Option Int → Stamps → Bool
  | _, [] => true
  | none, s :: r => isDev s.1 && okF (some s.1) r
  | some q, s :: r => isDev s.1 && (decide (q < s.1) && okF (some s.1) r)
theorem okF_some (q : Int × Nat) : ∀ v : Stamps, okF (some q.1) v = (risesB (q :: v) && !(v.any fun s => !isDev s.1))
  | [] => rfl
  | s :: r => by
    rw [okF, okF_some s r, risesB, List.any_cons]
    cases isDev s.1 <;> cases decide (q.1 < s.1) <;> cases risesB (s :: r) <;> simp
theorem okF_none (v : Stamps) : okF none v = vecOk v := by
  cases v with
  | nil => rfl
  | cons s r =>
    rw [okF, okF_some, vecOk, List.any_cons]
    cases isDev s.1 <;> cases risesB (s :: r) <;> simp
end Go.Vm.Codec
