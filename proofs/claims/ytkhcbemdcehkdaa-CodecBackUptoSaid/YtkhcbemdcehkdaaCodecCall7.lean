/- The law CodecBack, run: it returns true, and what lay there stays. -/
import Derived.Test.YtkhcbemdcehkdaaCodecArg5
import Derived.Test.YtkhcbemdcehkdaaCodecCall6
set_option linter.all false
namespace Go.Vm.Codec
open Go Go.Proofs Go.Proofs.Ytkhcbemdcehkdaa
set_option linter.unusedVariables false
set_option maxRecDepth 100000
theorem call7 (w : World) (x : Fr) (hx : x.Ok) (hb : x.body.length ≤ 1048576) (b : RRes) (hr : b.Small) (c0 c1 : Array Value) (h0 : RepL (g0 w) w (x.C .sh) c0.toList) (h1 : RepL (g0 w) w b.C c1.toList) :
    Calls Try.prog 7 #[.agg c0, .agg c1] w fun e w' => e = .returned (.bool true) ∧ Go.RowKit.Below w.heap.size w w' := by
  obtain ⟨A', hr⟩ := law7 [] x hx (by omega) b hr
  have hs := Run_sound Try.prog codecH clone_ok 7 _ [] _ hr (g0 w) w [.agg c0, .agg c1] (inv0 w) (by
    unfold RepL
    refine ⟨_, _, rfl, rep_agg h0, ?_⟩
    unfold RepL
    refine ⟨_, _, rfl, rep_agg h1, ?_⟩
    unfold RepL
    rfl)
  rcases hs with ⟨_, hc⟩ | ⟨v, w', g', d, hc, _⟩
  · refine hc.mono fun e w' ⟨g', E, _, hen⟩ => ?_
    cases e with
    | returned v =>
      have hv : Rep g' w' (.bool true) v := hen
      unfold Rep at hv
      subst hv
      exact ⟨rfl, E.below⟩
    | panicked c => exact hen.elim
    | outgrown => exact hen.elim
  · rw [fnOk_run Try.func7 (by kernel_rfl)] at hc
    cases hc
end Go.Vm.Codec
