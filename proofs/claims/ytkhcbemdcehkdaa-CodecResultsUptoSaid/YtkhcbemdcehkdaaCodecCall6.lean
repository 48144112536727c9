/- The law CodecResults, run: it returns true, and what lay there stays. -/
import Derived.Test.YtkhcbemdcehkdaaCodecArg4
import Derived.Test.YtkhcbemdcehkdaaCodecX
set_option linter.all false
namespace Go.Vm.Codec
open Go Go.Proofs Go.Proofs.Ytkhcbemdcehkdaa
set_option linter.unusedVariables false
set_option maxRecDepth 100000

theorem inv0 (w : World) : Inv (g0 w) [] w :=
  ⟨rfl, Nat.le_refl _, fun k s h => by simp at h, fun k k' b off h => by simp [g0] at h, fun k b off h => by simp [g0] at h, fun b off h => h.elim⟩
theorem rep_agg {w : World} {cs : List D} {c : Array Value} (h : RepL (g0 w) w cs c.toList) : Rep (g0 w) w (.agg cs) (.agg c) := by
  unfold Rep
  exact ⟨c, rfl, h⟩
theorem call6 (w : World) (a b : RRes) (ha : a.Small) (c0 c1 : Array Value) (h0 : RepL (g0 w) w a.C c0.toList) (h1 : RepL (g0 w) w b.C c1.toList) :
    Calls Try.prog 6 #[.agg c0, .agg c1] w fun e w' => e = .returned (.bool true) ∧ Go.RowKit.Below w.heap.size w w' := by
  obtain ⟨A', hr⟩ := law6 [] a b ha
  have hs := Run_sound Try.prog codecH clone_ok 6 _ [] _ hr (g0 w) w [.agg c0, .agg c1] (inv0 w) (by
    unfold RepL
    refine ⟨_, _, rfl, rep_agg h0, ?_⟩
    unfold RepL
    refine ⟨_, _, rfl, rep_agg h1, ?_⟩
    unfold RepL
    rfl)
  rcases hs with ⟨_, hc⟩ | ⟨v, w', g', d, hc, _⟩
  · refine hc.mono fun e w' ⟨g', E, _, hen⟩ => ?_
    cases e with
    | returned v =>
      have hv : Rep g' w' (.bool true) v := hen
      unfold Rep at hv
      subst hv
      exact ⟨rfl, E.below⟩
    | panicked c => exact hen.elim
    | outgrown => exact hen.elim
  · rw [fnOk_run Try.func6 (by kernel_rfl)] at hc
    cases hc
end Go.Vm.Codec
