/- The reference's tables tell the same relations. -/
import Derived.Test.YtikjlgcbcljehaaGreatDoorRxM2
import Derived.Test.YtikjlgcbcljehaaGreatDoorRxS54
set_option linter.all false
namespace Go.Vm.Rx
open Go Go.Proofs P
set_option linter.unusedVariables false
theorem chain_is {N : Nat} {a b : Mt} {R Q : Nat → Nat → Prop} (ha : Is N a R) (hb : Is N b Q) (hR : ∀ i j, i < N → R i j → i ≤ j ∧ j < N) : Is N (chI N a b N 0 fun _ _ => false) fun i j => ∃ q, R i q ∧ Q q j := by
  intro i j hi hj
  rw [chI_iff N a b N 0 _ i j hj]
  constructor
  · rintro (h | ⟨_, _, q, h1, h2, h3⟩)
    · cases h
    · exact ⟨q, (ha i q hi h1).1 h2, (hb q j h1 hj).1 h3⟩
  · rintro ⟨q, h1, h2⟩
    obtain ⟨_, h4⟩ := hR i q hi h1
    exact .inr ⟨Nat.zero_le _, by omega, q, h4, (ha i q hi h4).2 h1, (hb q j h4 hj).2 h2⟩
/-! by way of ever more places -/
def waJ (k i : Nat) : Nat → Nat → Mt → Mt
  | 0, _, m => m
  | f + 1, j, m => waJ k i f (j + 1) (updM m i j (m i j || (m i k && m k j)))
def waI (N k : Nat) : Nat → Nat → Mt → Mt
  | 0, _, m => m
  | f + 1, i, m => waI N k f (i + 1) (waJ k i N 0 m)
def waK (N : Nat) : Nat → Nat → Mt → Mt
  | 0, _, m => m
  | f + 1, k, m => waK N f (k + 1) (waI N k N 0 m)
def byW (m : Mt) (k : Nat) : Mt := fun a b => m a b || (m a k && m k b)
theorem byW_l (m : Mt) (k a : Nat) : byW m k a k = m a k := by unfold byW; cases m a k <;> simp
theorem byW_r (m : Mt) (k b : Nat) : byW m k k b = m k b := by unfold byW; cases m k b <;> simp
theorem waJ_get (m : Mt) (N k i : Nat) (hk : k < N) : ∀ (f j : Nat) (m' : Mt), j + f = N → (∀ a b, b < N → m' a b = if a < i ∨ (a = i ∧ b < j) then byW m k a b else m a b) →
    ∀ a b, b < N → waJ k i f j m' a b = if a < i ∨ (a = i ∧ b < N) then byW m k a b else m a b
  | 0, j, m', hj, h => fun a b hb => by
    have : j = N := by omega
    subst this
    exact h a b hb
  | f + 1, j, m', hj, h => by
    unfold waJ
    refine waJ_get m N k i hk f (j + 1) _ (by omega) fun a b hb => ?_
    have h1 : m' i j = m i j := by rw [h i j (by omega), if_neg (by omega)]
    have h2 : m' i k = m i k := by
      rw [h i k hk]
      split
      · exact byW_l m k i
      · rfl
    have h3 : m' k j = m k j := by
      rw [h k j (by omega)]
      split
      · exact byW_r m k j
      · rfl
    unfold updM
    by_cases e : a = i ∧ b = j
    · obtain ⟨rfl, rfl⟩ := e
      rw [if_pos ⟨rfl, rfl⟩, if_pos (by omega), h1, h2, h3]
      rfl
    · rw [if_neg e, h a b hb]
      by_cases h4 : a < i ∨ (a = i ∧ b < j)
      · rw [if_pos h4, if_pos (by omega)]
      · rw [if_neg h4, if_neg (by omega)]
theorem waI_get (m : Mt) (N k : Nat) (hk : k < N) : ∀ (f i : Nat) (m' : Mt), i + f = N → (∀ a b, b < N → m' a b = if a < i then byW m k a b else m a b) →
    ∀ a b, b < N → waI N k f i m' a b = if a < N then byW m k a b else m a b
  | 0, i, m', hi, h => fun a b hb => by
    have : i = N := by omega
    subst this
    exact h a b hb
  | f + 1, i, m', hi, h => by
    unfold waI
    refine waI_get m N k hk f (i + 1) _ (by omega) fun a b hb => ?_
    rw [waJ_get m N k i hk N 0 m' (by omega) (fun a b hb => by
      rw [h a b hb]
      by_cases h4 : a < i
      · rw [if_pos h4, if_pos (by omega)]
      · rw [if_neg h4, if_neg (by omega)]) a b hb]
    by_cases h4 : a < i + 1
    · rw [if_pos h4, if_pos (by omega)]
    · rw [if_neg h4, if_neg (by omega)]
def wayR (R : Nat → Nat → Prop) : Nat → Nat → Nat → Prop
  | 0, i, j => R i j
  | k + 1, i, j => wayR R k i j ∨ (wayR R k i k ∧ wayR R k k j)
theorem waK_is {N : Nat} {R : Nat → Nat → Prop} : ∀ (f k : Nat) (m : Mt), k + f = N → Is N m (wayR R k) → Is N (waK N f k m) (wayR R N)
  | 0, k, m, hk, h => by
    have : k = N := by omega
    subst this
    exact h
  | f + 1, k, m, hk, h => by
    unfold waK
    refine waK_is f (k + 1) _ (by omega) fun i j hi hj => ?_
    rw [waI_get m N k (by omega) N 0 m (by omega) (fun a b hb => by rw [if_neg (by omega)]) i j hj, if_pos hi]
    unfold byW wayR
    rw [Bool.or_eq_true, Bool.and_eq_true, h i j hi hj, h i k hi (by omega), h k j (by omega) hj]
theorem wayR_plus {R : Nat → Nat → Prop} : ∀ (k i j : Nat), wayR R k i j → Plus R i j
  | 0, i, j, h => .one h
  | k + 1, i, j, h => by
    unfold wayR at h
    rcases h with h | ⟨h1, h2⟩
    · exact wayR_plus k i j h
    · exact (wayR_plus k i k h1).trans (wayR_plus k k j h2)
theorem wayR_one {R : Nat → Nat → Prop} {i j : Nat} (h : R i j) : ∀ k, wayR R k i j
  | 0 => h
  | k + 1 => .inl (wayR_one h k)
theorem wayR_trans {R : Nat → Nat → Prop} : ∀ (n i a j : Nat), a < n → wayR R n i a → wayR R n a j → wayR R n i j
  | 0, _, _, _, h, _, _ => absurd h (Nat.not_lt_zero _)
  | n + 1, i, a, j, h, h1, h2 => by
    unfold wayR at h1 h2 ⊢
    by_cases e : a = n
    · subst e
      have g1 : wayR R a i a := h1.elim id And.left
      have g2 : wayR R a a j := h2.elim id And.right
      exact .inr ⟨g1, g2⟩
    · have hlt : a < n := by omega
      rcases h1 with h1 | ⟨h1, h3⟩ <;> rcases h2 with h2 | ⟨h2, h4⟩
      · exact .inl (wayR_trans n i a j hlt h1 h2)
      · exact .inr ⟨wayR_trans n i a n hlt h1 h2, h4⟩
      · exact .inr ⟨h1, wayR_trans n n a j hlt h3 h2⟩
      · exact .inr ⟨h1, h4⟩
theorem wa_is {N : Nat} {a : Mt} {R : Nat → Nat → Prop} (ha : Is N a R) (hR : ∀ i j, i < N → R i j → i ≤ j ∧ j < N) : Is N (waK N N 0 a) (Plus R) := by
  intro i j hi hj
  rw [waK_is N 0 a (by omega) ha i j hi hj]
  refine ⟨wayR_plus N i j, fun h => ?_⟩
  induction h with
  | one h => exact wayR_one h N
  | @cons i k j h g ih =>
    obtain ⟨_, h2⟩ := hR i k hi h
    exact wayR_trans N i k j h2 (wayR_one h N) (ih h2 hj)
theorem diag_is {N : Nat} {a : Mt} {R : Nat → Nat → Prop} (ha : Is N a R) : Is N (diag N 0 a) fun i j => i = j ∨ R i j := by
  intro i j hi hj
  rw [diag_get, Bool.or_eq_true, ha i j hi hj, decide_eq_true_eq]
  constructor
  · rintro (h | ⟨h, _⟩)
    · exact .inr h
    · exact .inl h
  · rintro (h | h)
    · exact .inr ⟨h, by omega, by omega⟩
    · exact .inl h
end Go.Vm.Rx
