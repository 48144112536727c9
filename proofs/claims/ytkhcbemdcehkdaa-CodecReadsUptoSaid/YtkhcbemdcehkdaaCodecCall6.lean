/- The law CodecResults, run: it returns true, and what lay there stays. -/
import Derived.Test.YtkhcbemdcehkdaaCodecArg4
import Derived.Test.YtkhcbemdcehkdaaCodecX
set_option linter.all false
namespace Go.Vm.Codec
open Go Go.Proofs Go.Proofs.Ytkhcbemdcehkdaa
set_option linter.unusedVariables false
set_option maxRecDepth 100000

theorem inv0 (w : World) : Inv (g0 w) [] w :=
  ⟨rfl, Nat.le_refl _, fun k s h => by simp at h, fun k k' b off h => by simp [g0] at h, fun k b off h => by simp [g0] at h, fun b off h => h.elim⟩
end Go.Vm.Codec
