/- The law CodecAgain, run: it returns true, and what lay there stays. -/
import Derived.Test.YtkhcbemdcehkdaaCodecArg5
import Derived.Test.YtkhcbemdcehkdaaCodecCall6
set_option linter.all false
namespace Go.Vm.Codec
open Go Go.Proofs Go.Proofs.Ytkhcbemdcehkdaa
set_option linter.unusedVariables false
set_option maxRecDepth 100000
theorem call8 (w : World) (b : List UInt8) (hb : b.length ≤ 1048576) (cut : Int) (m : UInt8) (v0 : Value) (h0 : Rep (g0 w) w (.sl .sh 1 (strBytes b)) v0) :
    Calls Try.prog 8 #[v0, .int .i64 cut, .int .u8 m.toNat] w fun e w' => e = .returned (.bool true) ∧ Go.RowKit.Below w.heap.size w w' := by
  obtain ⟨A', hr⟩ := law8 [] b hb cut m
  have hs := Run_sound Try.prog codecH clone_ok 8 _ [] _ hr (g0 w) w [v0, .int .i64 cut, .int .u8 m.toNat] (inv0 w) (by
    unfold RepL
    refine ⟨_, _, rfl, h0, ?_⟩
    unfold RepL
    refine ⟨_, _, rfl, by unfold Rep; rfl, ?_⟩
    unfold RepL
    refine ⟨_, _, rfl, by unfold Rep; rfl, ?_⟩
    unfold RepL
    rfl)
  rcases hs with ⟨_, hc⟩ | ⟨v, w', g', d, hc, _⟩
  · refine hc.mono fun e w' ⟨g', E, _, hen⟩ => ?_
    cases e with
    | returned v =>
      have hv : Rep g' w' (.bool true) v := hen
      unfold Rep at hv
      subst hv
      exact ⟨rfl, E.below⟩
    | panicked c => exact hen.elim
    | outgrown => exact hen.elim
  · rw [fnOk_run Try.func8 (by kernel_rfl)] at hc
    cases hc
end Go.Vm.Codec
