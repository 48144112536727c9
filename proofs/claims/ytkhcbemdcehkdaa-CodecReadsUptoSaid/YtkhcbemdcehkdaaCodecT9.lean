/- CodecAgain over data. -/
import Derived.Test.YtkhcbemdcehkdaaCodecT8
set_option linter.all false
namespace Go.Vm.Codec
open Go.Proofs
set_option linter.unusedVariables false
set_option linter.unusedSimpArgs false
set_option maxRecDepth 10000
set_option maxHeartbeats 4000000
def Bad {α : Type} (E : Except (Nat × Int) α) : Prop := ∃ p e, e ≠ 0 ∧ E = .error (p, e)
theorem pFr_bad (b : List UInt8) : (∃ x, pFr b = .ok x) ∨ Bad (pFr b) := by
  unfold pFr
  split
  · exact .inr ⟨_, _, by omega, rfl⟩
  split
  · exact .inr ⟨_, _, by omega, rfl⟩
  split
  · exact .inr ⟨_, _, by omega, rfl⟩
  split
  · exact .inr ⟨_, _, by omega, rfl⟩
  split
  · exact .inr ⟨_, _, by omega, rfl⟩
  · exact .inl ⟨_, rfl⟩
theorem pRes_bad (b : List UInt8) : (∃ x, pRes b = .ok x) ∨ Bad (pRes b) := by
  unfold pRes
  split
  · exact .inr ⟨_, _, by omega, rfl⟩
  split
  · exact .inr ⟨_, _, by omega, rfl⟩
  split
  · exact .inr ⟨_, _, by omega, rfl⟩
  split
  · exact .inr ⟨_, _, by omega, rfl⟩
  split
  · exact .inr ⟨_, _, by omega, rfl⟩
  split
  · exact .inr ⟨_, _, by omega, rfl⟩
  split
  · exact .inr ⟨_, _, by omega, rfl⟩
  split
  · exact .inr ⟨_, _, by omega, rfl⟩
  split
  · exact .inr ⟨_, _, by omega, rfl⟩
  · exact .inl ⟨_, rfl⟩
theorem pRes_F (r : List UInt8) : Bad (pRes (70 :: r)) := by
  unfold pRes
  split
  · exact ⟨_, _, by omega, rfl⟩
  · rw [if_pos (by simp)]; exact ⟨_, _, by omega, rfl⟩
theorem pFr_R (r : List UInt8) : Bad (pFr (82 :: r)) := by
  unfold pFr
  rw [if_pos (by simp)]; exact ⟨_, _, by omega, rfl⟩
theorem after_F {b : List UInt8} {x : Fr} (h : pFr b = .ok x) (t : List UInt8) (ht : t ≠ []) : Bad (pFr (b ++ t)) ∧ Bad (pRes (b ++ t)) := by
  obtain ⟨rfl, ho, hb⟩ := pFr_read h
  constructor
  · rw [pFr_print ho hb, if_neg ht]; exact ⟨_, _, by omega, rfl⟩
  · rw [bytes_eq]; exact pRes_F _
theorem after_R {b : List UInt8} {x} (h : pRes b = .ok x) (t : List UInt8) (ht : t ≠ []) : Bad (pFr (b ++ t)) ∧ Bad (pRes (b ++ t)) := by
  obtain ⟨i, n, v, sh⟩ := x
  obtain ⟨rfl, hE, hu, hv⟩ := pRes_read h
  constructor
  · rw [resBytes_eq]; exact pFr_R _
  · by_cases hl : (resBytes i n v sh ++ t).length ≤ 1048576
    · rw [pRes_print hE hu hv t hl, if_neg ht]; exact ⟨_, _, by omega, rfl⟩
    · unfold pRes
      rw [if_pos (by omega)]; exact ⟨_, _, by omega, rfl⟩
theorem after {b : List UInt8} (h : ¬ (Bad (pFr b) ∧ Bad (pRes b))) (t : List UInt8) (ht : t ≠ []) : Bad (pFr (b ++ t)) ∧ Bad (pRes (b ++ t)) := by
  rcases pFr_bad b with ⟨x, hx⟩ | h1
  · exact after_F hx t ht
  · rcases pRes_bad b with ⟨y, hy⟩ | h2
    · exact after_R hy t ht
    · exact (h ⟨h1, h2⟩).elim
theorem before {b : List UInt8} (h : ¬ (Bad (pFr b) ∧ Bad (pRes b))) (n : Nat) (hn : n < b.length) : Bad (pFr (b.take n)) ∧ Bad (pRes (b.take n)) := by
  apply Classical.byContradiction
  intro hc
  have := after hc (b.drop n) (by
    intro e
    have := congrArg List.length e
    rw [List.length_drop, List.length_nil] at this
    omega)
  rw [List.take_append_drop] at this
  exact h this
theorem st_zero (B : St) (n : Nat) (cs : List D) (hv : allCells cs = true) (hn : Nat.beq cs.length n = true) : storeO true n (.ref B.length 0) (.agg cs) (B ++ [.cells cs]) = some (B ++ [.cells cs]) := by
  rw [storeA (cs := cs) (by rw [get_app _ _ _ 0 (by omega)]; rfl) hv hn hn, set_app _ _ 0 _ _ (by omega)]
  rfl
end Go.Vm.Codec
