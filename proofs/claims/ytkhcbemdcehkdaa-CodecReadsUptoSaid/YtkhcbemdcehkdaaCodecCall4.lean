/- The law CodecReads, run: it returns true, and what lay there stays. -/
import Derived.Test.YtkhcbemdcehkdaaCodecArg5
import Derived.Test.YtkhcbemdcehkdaaCodecT19
import Derived.Test.YtkhcbemdcehkdaaCodecCall6
set_option linter.all false
namespace Go.Vm.Codec
open Go Go.Proofs Go.Proofs.Ytkhcbemdcehkdaa
set_option linter.unusedVariables false
set_option maxRecDepth 100000
theorem call4 (w : World) (b : List UInt8) (hbl : b.length ≤ 1048576) (v1 : Value) (h1 : Rep (g0 w) w (.sl .sh 1 (strBytes b)) v1) :
    Calls Try.prog 4 #[v1] w fun e w' => e = .returned (.bool true) ∧ Go.RowKit.Below w.heap.size w w' := by
  obtain ⟨A', hr⟩ := law4 [] b (by omega)
  have hs := Run_sound Try.prog codecH clone_ok 4 _ [] _ hr (g0 w) w [v1] (inv0 w) (by
    unfold RepL
    refine ⟨_, _, rfl, h1, ?_⟩
    unfold RepL
    rfl)
  rcases hs with ⟨_, hc⟩ | ⟨v, w', g', d, hc, _⟩
  · refine hc.mono fun e w' ⟨g', E, _, hen⟩ => ?_
    cases e with
    | returned v =>
      have hv : Rep g' w' (.bool true) v := hen
      unfold Rep at hv
      subst hv
      exact ⟨rfl, E.below⟩
    | panicked c => exact hen.elim
    | outgrown => exact hen.elim
  · rw [fnOk_run Try.func4 (by kernel_rfl)] at hc
    cases hc
end Go.Vm.Codec
