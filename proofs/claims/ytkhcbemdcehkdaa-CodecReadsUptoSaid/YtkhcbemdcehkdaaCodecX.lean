/- slices.Clone of bytes: what is laid beside the run is right. -/
import Derived.Test.YtkhcbemdcehkdaaCodecF1
import Derived.Test.YtkhcbemdcehkdaaVmSimp
import Derived.WalkKit
import Derived.ProofKit
import Derived.KernelRfl
set_option linter.all false
namespace Go.Vm.Codec
open Go Go.Proofs Go.ChangeShapes Go.WideShapes Go.ChangeAt Go.RowKit
set_option maxRecDepth 100000
set_option linter.unusedVariables false

theorem u25 : Try.prog.underlying 25 = some (.slice 5) := by kernel_rfl
theorem equalIn_nil {P : Program} {t e : TypeId} (hu : P.underlying t = some (.slice e)) (n : Nat) (w : World) (c : Nat) : (Op.equalIn (n + 1) t (.slice none 0 c) (.slice none 0 0)).run P w = .ok true w := by
  simp [Op.equalIn, run_underlying hu]
theorem eq_nil {P : Program} {t e : TypeId} (hu : P.underlying t = some (.slice e)) (w : World) (c : Nat) : (binOp .eql t (.slice none 0 c) (.slice none 0 0)).run P w = .ok (.bool true) w :=
  binOp_eq false rfl (equalIn_nil hu _ w c)
theorem eq_some {P : Program} {t e : TypeId} (hu : P.underlying t = some (.slice e)) (w : World) (a : Addr) (c : Nat) : (binOp .eql t (.slice (some a) 0 c) (.slice none 0 0)).run P w = .ok (.bool false) w :=
  binOp_eq false rfl (equalIn_slice_r hu _ a 0 c w)
theorem walk_nil (w : World) (c : Nat) : Calls Try.prog 30 #[.slice none 0 c] w fun e w' => e = .returned (.slice none 0 0) ∧ w' = w := by
  go_enter Try.func30, Try.ntmps30
  go_wp2
  rw [eq_nil u25]
  go_wp2
  go_ret
  exact ⟨rfl, rfl⟩
theorem walk_some (w : World) (a : Addr) (c : Nat) : Calls Try.prog 30 #[.slice (some a) 0 c] w fun e w' => e = .returned (.slice (some { block := w.heap.size, off := 0 }) 0 0) ∧ w' = w.alloc (.cells #[] 5) := by
  go_enter Try.func30, Try.ntmps30
  go_wp2
  rw [eq_some u25]
  go_wp2
  go_ret
  exact ⟨rfl, rfl⟩
theorem clone_empty (o : Own) (es : Nat) (A : St) : Sound Try.prog 30 [.sl o es []] A (.ret (.sl .full 1 []), A) := by
  intro g w vs I hr
  left
  refine ⟨fnOk_run Try.func30 (by kernel_rfl) _ _, ?_⟩
  unfold RepL at hr
  obtain ⟨v, r, rfl, hv, hr⟩ := hr
  unfold RepL at hr
  subst hr
  unfold Rep at hv
  obtain ⟨a, cap, rfl, _, _, _⟩ := hv
  cases a with
  | none =>
    refine (walk_nil w cap).mono fun e w' ⟨he, hw⟩ => ?_
    subst he hw
    refine ⟨g, Ext.refl _ _, I, ?_⟩
    show Rep _ _ _ _
    unfold Rep
    exact ⟨none, 0, rfl, Nat.le_refl _, rfl, fun h => absurd rfl h⟩
  | some a =>
    refine (walk_some w a cap).mono fun e w' ⟨he, hw⟩ => ?_
    subst he hw
    obtain ⟨E, I', _, _⟩ := I.alloc #[] 5 (0, 0)
    refine ⟨g, E, I', ?_⟩
    show Rep _ _ _ _
    unfold Rep
    exact ⟨_, 0, rfl, Nat.le_refl _, rfl, fun h => absurd rfl h⟩
theorem ext0 : ExtOk Try.prog codecH0 := fun f x h => by cases h
theorem clone_full (o : Own) (d : D) (ds : List D) (hr : roomOk (d :: ds).length 1 = true) (hl : (d :: ds).length ≤ 9223372036854775807) (A : St) :
    Run Try.prog codecH0 30 [.sl o 1 (d :: ds)] A = some (.ret (.sl .sh 1 (D.shutL A.length (d :: ds))), A) := by
  rw [r30]
  unfold f30
  have h1 : binO .eql 4 true (.sl o 1 (d :: ds)) (.sl .full 0 []) = some (.bool false) := rfl
  have h2 : appendO 1 1 (.sl .full 1 []) (.sl o 1 (d :: ds)) A = some (.sl (.own A.length 0) 1 (d :: ds), A ++ [.tok (d :: ds).length]) := by
    have := append_full (n := 1) (b := 1) (ds := []) (new := d :: ds) (y := .sl o 1 (d :: ds)) (A := A) (by simp [appendNew, esOk]) rfl (by simpa using hr) (by simpa using hl)
    simpa using this
  simp (disch := omega) only [h1, h2, qc7, qaz, qbc, qaq, qao, qap, qah, qc5, qc3, qbv]
theorem clone_ok : ExtOk Try.prog codecH := by
  intro f x h args A r hx
  have hf : f = 30 ∧ x = cloneX := by
    have h' : codecExt f = some x := h
    unfold codecExt at h'
    split at h'
    · cases h'; exact ⟨rfl, rfl⟩
    · cases h'
  obtain ⟨rfl, rfl⟩ := hf
  unfold cloneX at hx
  split at hx
  · rename_i o es ds
    split at hx
    · rename_i hc
      simp only [Option.some.injEq] at hx
      subst hx
      cases ds with
      | nil => exact clone_empty o es A
      | cons d ds =>
        have hes : es = 1 := by
          have := hc.1
          simp [esOk] at this
          exact this
        subst hes
        have hl : (d :: ds).length ≤ 9223372036854775807 := by
          have := hc.2
          simp only [roomOk, decide_eq_true_eq] at this
          omega
        have hs := Run_sound Try.prog codecH0 ext0 30 _ A _ (clone_full o d ds hc.2 hl A)
        intro g w vs I hr
        have hsh : D.shutL A.length (d :: ds) = d :: ds := by
          have hr' := hr
          unfold RepL at hr'
          obtain ⟨v, r, _, hv, _⟩ := hr'
          have := Rep.shut_id (Nat.le_of_eq I.len) _ _ hv
          simp only [D.shut, D.sl.injEq] at this
          exact this.2.2
        rw [hsh] at hs
        exact hs g w vs I hr
    · cases hx
  · cases hx
end Go.Vm.Codec
