/- RxM, RxM2 in one text. -/
import Derived.Test.YtikjlgcbcljehaaGreatDoorRxS46
import Derived.Test.YtikjlgcbcljehaaGreatDoorRxS16
set_option linter.all false
/- Which paths are of an expression, as relations of places; the tables have them. -/
namespace Go.Vm.Rx
open Go Go.Proofs P
set_option linter.unusedVariables false
structure Who where
  nm : Str
  cl : List Str
inductive Plus (R : Nat → Nat → Prop) : Nat → Nat → Prop
  | one {i j : Nat} : R i j → Plus R i j
  | cons {i k j : Nat} : R i k → Plus R k j → Plus R i j
theorem Plus.trans {R : Nat → Nat → Prop} {i k j : Nat} (h : Plus R i k) (g : Plus R k j) : Plus R i j := by
  induction h with
  | one h => exact .cons h g
  | cons h _ ih => exact .cons h (ih g)
theorem Plus.mono {R Q : Nat → Nat → Prop} (h : ∀ i j, R i j → Q i j) {i j : Nat} (g : Plus R i j) : Plus Q i j := by
  induction g with
  | one g => exact .one (h _ _ g)
  | cons g _ ih => exact .cons (h _ _ g) ih
/-- a table tells a relation -/
def Is (N : Nat) (m : Mt) (R : Nat → Nat → Prop) : Prop := ∀ i j, i < N → j < N → (m i j = true ↔ R i j)
theorem rowAdd_iff (src : Nat → Bool) (i f j : Nat) (m : Mt) (i' j' : Nat) : rowAdd src i f j m i' j' = true ↔ m i' j' = true ∨ (i' = i ∧ j ≤ j' ∧ j' < j + f ∧ src j' = true) := by
  rw [rowAdd_get]
  simp only [Bool.or_eq_true, Bool.and_eq_true, decide_eq_true_eq, and_assoc]
theorem thenK_iff (N : Nat) (a b : Mt) (i : Nat) : ∀ (f k : Nat) (m : Mt) (i' j' : Nat), k + f = N → (thenK N a b i f k m i' j' = true ↔ m i' j' = true ∨ (i' = i ∧ ∃ q, k ≤ q ∧ q < N ∧ a i q = true ∧ q ≤ j' ∧ j' < N ∧ b q j' = true))
  | 0, k, m, i', j', h => by
    unfold thenK
    constructor
    · exact .inl
    · rintro (h | ⟨_, q, _⟩)
      · exact h
      · omega
  | f + 1, k, m, i', j', h => by
    unfold thenK
    rw [thenK_iff N a b i f (k + 1) _ i' j' (by omega)]
    constructor
    · rintro (h1 | ⟨e, q, h1⟩)
      · split at h1
        · rename_i hc
          rcases (rowAdd_iff ..).1 h1 with h1 | ⟨e, h2, h3, h4⟩
          · exact .inl h1
          · exact .inr ⟨e, k, Nat.le_refl _, by omega, hc, h2, by omega, h4⟩
        · exact .inl h1
      · exact .inr ⟨e, q, by omega, h1.2⟩
    · rintro (h1 | ⟨e, q, h2, h3, h4, h5, h6, h7⟩)
      · left
        split
        · exact (rowAdd_iff ..).2 (.inl h1)
        · exact h1
      · rcases Nat.eq_or_lt_of_le h2 with rfl | h2
        · left
          rw [if_pos h4]
          exact (rowAdd_iff ..).2 (.inr ⟨e, h5, by omega, h7⟩)
        · exact .inr ⟨e, q, h2, h3, h4, h5, h6, h7⟩
theorem thenI_iff (N : Nat) (a b : Mt) : ∀ (f i : Nat) (m : Mt) (i' j' : Nat), i + f = N → (thenI N a b f i m i' j' = true ↔ m i' j' = true ∨ (i ≤ i' ∧ i' < N ∧ ∃ q, i' ≤ q ∧ q < N ∧ a i' q = true ∧ q ≤ j' ∧ j' < N ∧ b q j' = true))
  | 0, i, m, i', j', h => by
    unfold thenI
    constructor
    · exact .inl
    · rintro (h | ⟨_, _, _⟩)
      · exact h
      · omega
  | f + 1, i, m, i', j', h => by
    unfold thenI
    rw [thenI_iff N a b f (i + 1) _ i' j' (by omega), thenK_iff N a b i (N - i) i m i' j' (by omega)]
    constructor
    · rintro ((h1 | ⟨rfl, q, h1⟩) | ⟨h1, h2⟩)
      · exact .inl h1
      · exact .inr ⟨Nat.le_refl _, by omega, q, h1⟩
      · exact .inr ⟨by omega, h2⟩
    · rintro (h1 | ⟨h1, h2, q, h3⟩)
      · exact .inl (.inl h1)
      · rcases Nat.eq_or_lt_of_le h1 with rfl | h1
        · exact .inl (.inr ⟨rfl, q, h3⟩)
        · exact .inr ⟨h1, h2, q, h3⟩
theorem then_is {N : Nat} {a b : Mt} {R Q : Nat → Nat → Prop} (ha : Is N a R) (hb : Is N b Q) (hR : ∀ i j, i < N → R i j → i ≤ j ∧ j < N) (hQ : ∀ i j, i < N → Q i j → i ≤ j ∧ j < N) :
    Is N (thenI N a b N 0 fun _ _ => false) fun i j => ∃ q, R i q ∧ Q q j := by
  intro i j hi hj
  rw [thenI_iff N a b N 0 _ i j (by omega)]
  constructor
  · rintro (h | ⟨_, _, q, h1, h2, h3, h4, h5, h6⟩)
    · cases h
    · exact ⟨q, (ha i q hi h2).1 h3, (hb q j h2 hj).1 h6⟩
  · rintro ⟨q, h1, h2⟩
    obtain ⟨h3, h4⟩ := hR i q hi h1
    obtain ⟨h5, h6⟩ := hQ q j h4 h2
    exact .inr ⟨Nat.zero_le _, hi, q, h3, h4, (ha i q hi h4).2 h1, h5, h6, (hb q j h4 hj).2 h2⟩
theorem againJ_iff (N : Nat) (a : Mt) (i : Nat) : ∀ (f j : Nat) (m : Mt) (i' t : Nat), j + f = N → (againJ N a i f j m i' t = true ↔ m i' t = true ∨ (i' = i ∧ ((j ≤ t ∧ t < N ∧ a i t = true) ∨ ∃ q, j ≤ q ∧ q < N ∧ a i q = true ∧ i < q ∧ q ≤ t ∧ t < N ∧ m q t = true)))
  | 0, j, m, i', t, h => by
    unfold againJ
    constructor
    · exact .inl
    · rintro (h | ⟨_, ⟨_, _⟩ | ⟨q, _⟩⟩)
      · exact h
      · omega
      · omega
  | f + 1, j, m, i', t, h => by
    have h1 : ∀ i' t, updM m i j (m i j || a i j) i' t = true ↔ m i' t = true ∨ (i' = i ∧ t = j ∧ a i j = true) := by
      intro i' t
      unfold updM
      by_cases e : i' = i ∧ t = j
      · rw [if_pos e]
        obtain ⟨rfl, rfl⟩ := e
        simp
      · rw [if_neg e]
        constructor
        · exact .inl
        · rintro (h | ⟨e1, e2, _⟩)
          · exact h
          · exact absurd ⟨e1, e2⟩ e
    have h2 : ∀ i' t, (if a i j = true ∧ i < j then rowAdd (updM m i j (m i j || a i j) j) i (N - j) j (updM m i j (m i j || a i j)) else updM m i j (m i j || a i j)) i' t = true ↔
        m i' t = true ∨ (i' = i ∧ ((t = j ∧ a i j = true) ∨ (a i j = true ∧ i < j ∧ j ≤ t ∧ t < N ∧ m j t = true))) := by
      intro i' t
      split
      · rename_i hc
        rw [rowAdd_iff, h1, h1]
        constructor
        · rintro ((h | ⟨e, h3, h4⟩) | ⟨e, h3, h4, (h5 | ⟨h5, _⟩)⟩)
          · exact .inl h
          · exact .inr ⟨e, .inl ⟨h3, h4⟩⟩
          · exact .inr ⟨e, .inr ⟨hc.1, hc.2, h3, by omega, h5⟩⟩
          · omega
        · rintro (h | ⟨e, ⟨h3, h4⟩ | ⟨h3, h4, h5, h6, h7⟩⟩)
          · exact .inl (.inl h)
          · exact .inl (.inr ⟨e, h3, h4⟩)
          · exact .inr ⟨e, h5, by omega, .inl h7⟩
      · rename_i hc
        rw [h1]
        constructor
        · rintro (h | ⟨e, h3, h4⟩)
          · exact .inl h
          · exact .inr ⟨e, .inl ⟨h3, h4⟩⟩
        · rintro (h | ⟨e, ⟨h3, h4⟩ | ⟨h3, h4, _⟩⟩)
          · exact .inl h
          · exact .inr ⟨e, h3, h4⟩
          · exact absurd ⟨h3, h4⟩ hc
    unfold againJ
    rw [againJ_iff N a i f (j + 1) _ i' t (by omega), h2]
    constructor
    · rintro ((h | ⟨e, ⟨h3, h4⟩ | ⟨h3, h4, h5, h6, h7⟩⟩) | ⟨e, ⟨h3, h4, h5⟩ | ⟨q, h3, h4, h5, h6, h7, h8, h9⟩⟩)
      · exact .inl h
      · subst h3; exact .inr ⟨e, .inl ⟨Nat.le_refl _, by omega, h4⟩⟩
      · exact .inr ⟨e, .inr ⟨j, Nat.le_refl _, by omega, h3, h4, h5, h6, h7⟩⟩
      · exact .inr ⟨e, .inl ⟨by omega, h4, h5⟩⟩
      · rcases (h2 q t).1 h9 with h9 | ⟨e2, _⟩
        · exact .inr ⟨e, .inr ⟨q, by omega, h4, h5, h6, h7, h8, h9⟩⟩
        · omega
    · rintro (h | ⟨e, ⟨h3, h4, h5⟩ | ⟨q, h3, h4, h5, h6, h7, h8, h9⟩⟩)
      · exact .inl (.inl h)
      · rcases Nat.eq_or_lt_of_le h3 with rfl | h3
        · exact .inl (.inr ⟨e, .inl ⟨rfl, h5⟩⟩)
        · exact .inr ⟨e, .inl ⟨h3, h4, h5⟩⟩
      · rcases Nat.eq_or_lt_of_le h3 with rfl | h3
        · exact .inl (.inr ⟨e, .inr ⟨h5, h6, h7, h8, h9⟩⟩)
        · exact .inr ⟨e, .inr ⟨q, h3, h4, h5, h6, h7, h8, (h2 q t).2 (.inl h9)⟩⟩
theorem againI_old (N : Nat) (a : Mt) : ∀ (f : Nat) (m : Mt) (i t : Nat), f ≤ N → f ≤ i → (againI N a f m i t = true ↔ m i t = true)
  | 0, m, i, t, _, _ => Iff.rfl
  | f + 1, m, i, t, hf, hi => by
    unfold againI
    rw [againI_old N a f _ i t (by omega) (by omega), againJ_iff N a f (N - f) f m i t (by omega)]
    constructor
    · rintro (h | ⟨e, _⟩)
      · exact h
      · omega
    · exact .inl
theorem againI_iff (N : Nat) (a : Mt) : ∀ (f : Nat) (m : Mt) (i t : Nat), f ≤ N → i < f → (againI N a f m i t = true ↔ m i t = true ∨ (i ≤ t ∧ t < N ∧ a i t = true) ∨ ∃ q, i < q ∧ q < N ∧ a i q = true ∧ q ≤ t ∧ t < N ∧ againI N a f m q t = true)
  | 0, m, i, t, _, hi => by omega
  | f + 1, m, i, t, hf, hi => by
    have hu : ∀ q t, againI N a (f + 1) m q t = againI N a f (againJ N a f (N - f) f m) q t := fun q t => rfl
    rcases Nat.lt_or_ge i f with h | h
    · rw [hu, againI_iff N a f _ i t (by omega) h, againJ_iff N a f (N - f) f m i t (by omega)]
      simp only [hu]
      constructor
      · rintro ((h1 | ⟨e, _⟩) | h1)
        · exact .inl h1
        · omega
        · exact .inr h1
      · rintro (h1 | h1)
        · exact .inl (.inl h1)
        · exact .inr h1
    · have : i = f := by omega
      subst this
      have ho : ∀ q, i < q → (againI N a (i + 1) m q t = true ↔ m q t = true) := fun q hq => againI_old N a (i + 1) m q t hf hq
      rw [hu, againI_old N a i _ i t (by omega) (Nat.le_refl _), againJ_iff N a i (N - i) i m i t (by omega)]
      constructor
      · rintro (h1 | ⟨_, h1 | ⟨q, h2, h3, h4, h5, h6, h7, h8⟩⟩)
        · exact .inl h1
        · exact .inr (.inl h1)
        · exact .inr (.inr ⟨q, h5, h3, h4, h6, h7, (ho q h5).2 h8⟩)
      · rintro (h1 | h1 | ⟨q, h5, h3, h4, h6, h7, h8⟩)
        · exact .inl h1
        · exact .inr ⟨rfl, .inl h1⟩
        · exact .inr ⟨rfl, .inr ⟨q, by omega, h3, h4, h5, h6, h7, (ho q h5).1 h8⟩⟩
theorem Plus.le {N : Nat} {R : Nat → Nat → Prop} (hR : ∀ i j, i < N → R i j → i ≤ j ∧ j < N) {i j : Nat} (h : Plus R i j) : i < N → i ≤ j ∧ j < N := by
  induction h with
  | one h => exact fun hi => hR _ _ hi h
  | cons h _ ih =>
    intro hi
    obtain ⟨h1, h2⟩ := hR _ _ hi h
    obtain ⟨h3, h4⟩ := ih h2
    exact ⟨by omega, h4⟩
theorem again_is {N : Nat} {a : Mt} {R : Nat → Nat → Prop} (ha : Is N a R) (hR : ∀ i j, i < N → R i j → i ≤ j ∧ j < N) : Is N (againI N a N fun _ _ => false) (Plus R) := by
  have hT : ∀ i t, i < N → t < N → (againI N a N (fun _ _ => false) i t = true ↔ R i t ∨ ∃ q, i < q ∧ R i q ∧ q < N ∧ q ≤ t ∧ againI N a N (fun _ _ => false) q t = true) := by
    intro i t hi ht
    rw [againI_iff N a N _ i t (Nat.le_refl _) hi]
    constructor
    · rintro (h | ⟨h1, h2, h3⟩ | ⟨q, h1, h2, h3, h4, h5, h6⟩)
      · cases h
      · exact .inl ((ha i t hi ht).1 h3)
      · exact .inr ⟨q, h1, (ha i q hi h2).1 h3, h2, h4, h6⟩
    · rintro (h | ⟨q, h1, h2, h3, h4, h5⟩)
      · exact .inr (.inl ⟨(hR i t hi h).1, ht, (ha i t hi ht).2 h⟩)
      · exact .inr (.inr ⟨q, h1, h3, (ha i q hi h3).2 h2, h4, ht, h5⟩)
  have hfw : ∀ (d i : Nat), N - i ≤ d → ∀ t, i < N → t < N → againI N a N (fun _ _ => false) i t = true → Plus R i t := by
    intro d
    induction d with
    | zero => intro i hd t hi; omega
    | succ d ih =>
      intro i hd t hi ht h
      rcases (hT i t hi ht).1 h with h | ⟨q, h1, h2, h3, h4, h5⟩
      · exact .one h
      · exact .cons h2 (ih q (by omega) t h3 ht h5)
  intro i j hi hj
  refine ⟨hfw N i (by omega) j hi hj, fun h => ?_⟩
  induction h with
  | one h => exact (hT _ _ hi hj).2 (.inl h)
  | @cons i k j h g ih =>
    obtain ⟨h1, h2⟩ := hR i k hi h
    obtain ⟨h3, h4⟩ := g.le hR h2
    have := ih h2 hj
    rcases Nat.eq_or_lt_of_le h1 with rfl | h1
    · exact this
    · exact (hT _ _ hi hj).2 (.inr ⟨k, h1, h, h2, h3, this⟩)
theorem or_is {N : Nat} {a b : Mt} {R Q : Nat → Nat → Prop} (ha : Is N a R) (hb : Is N b Q) : Is N (orM a b) fun i j => R i j ∨ Q i j := by
  intro i j hi hj
  unfold orM
  rw [Bool.or_eq_true, ha i j hi hj, hb i j hi hj]
theorem id_is (N : Nat) : Is N idM fun i j => i = j := by
  intro i j hi hj
  simp [idM]
/-! what an expression means -/
mutual
def Rx.sem (p : List Who) : Rx → Nat → Nat → Prop
  | .mk op nm ks, i, j => if op = 1 then j = i + 1 ∧ ∃ w, p[i]? = some w ∧ w.nm = nm else if op = 2 then j = i + 1 ∧ ∃ w, p[i]? = some w ∧ nm ∈ w.cl else if op = 3 then j = i + 1 ∧ i < p.length
    else if op = 4 then Rx.semSeq p ks i j else if op = 5 then Rx.semAlt p ks i j else if op = 6 then (i = j ∨ Plus (Rx.semOne p ks) i j) else if op = 7 then Plus (Rx.semOne p ks) i j else if op = 8 then (i = j ∨ Rx.semOne p ks i j) else False
def Rx.semSeq (p : List Who) : List Rx → Nat → Nat → Prop
  | [], i, j => i = j
  | k :: ks, i, j => ∃ q, Rx.sem p k i q ∧ Rx.semSeq p ks q j
def Rx.semAlt (p : List Who) : List Rx → Nat → Nat → Prop
  | [], _, _ => False
  | k :: ks, i, j => Rx.sem p k i j ∨ Rx.semAlt p ks i j
def Rx.semOne (p : List Who) : List Rx → Nat → Nat → Prop
  | [], _, _ => False
  | k :: _, i, j => Rx.sem p k i j
end
end Go.Vm.Rx

/- The laws of what expressions mean. -/
namespace Go.Vm.Rx
open Go Go.Proofs P
set_option linter.unusedVariables false
mutual
theorem sem_le (p : List Who) : ∀ (r : P.Rx) (i j : Nat), i < p.length + 1 → Rx.sem p r i j → i ≤ j ∧ j < p.length + 1
  | .mk op nm ks, i, j, hi, h => by
    have h1 := seq_le p ks
    have h2 := alt_le p ks
    have h3 := one_le p ks
    unfold Rx.sem at h
    split at h
    · obtain ⟨rfl, w, hw, _⟩ := h
      have : i < p.length := by
        rcases Nat.lt_or_ge i p.length with h | h
        · exact h
        · rw [List.getElem?_eq_none h] at hw; cases hw
      omega
    · split at h
      · obtain ⟨rfl, w, hw, _⟩ := h
        have : i < p.length := by
          rcases Nat.lt_or_ge i p.length with h | h
          · exact h
          · rw [List.getElem?_eq_none h] at hw; cases hw
        omega
      · split at h
        · omega
        · split at h
          · exact h1 i j hi h
          · split at h
            · exact h2 i j hi h
            · split at h
              · rcases h with rfl | h
                · omega
                · exact h.le h3 hi
              · split at h
                · exact h.le h3 hi
                · split at h
                  · rcases h with rfl | h
                    · omega
                    · exact h3 i j hi h
                  · exact h.elim
theorem seq_le (p : List Who) : ∀ (ks : List P.Rx) (i j : Nat), i < p.length + 1 → Rx.semSeq p ks i j → i ≤ j ∧ j < p.length + 1
  | [], i, j, hi, h => by unfold Rx.semSeq at h; omega
  | k :: ks, i, j, hi, h => by
    unfold Rx.semSeq at h
    obtain ⟨q, h1, h2⟩ := h
    have := sem_le p k i q hi h1
    have := seq_le p ks q j this.2 h2
    omega
theorem alt_le (p : List Who) : ∀ (ks : List P.Rx) (i j : Nat), i < p.length + 1 → Rx.semAlt p ks i j → i ≤ j ∧ j < p.length + 1
  | [], i, j, hi, h => by unfold Rx.semAlt at h; exact h.elim
  | k :: ks, i, j, hi, h => by
    unfold Rx.semAlt at h
    rcases h with h | h
    · exact sem_le p k i j hi h
    · exact alt_le p ks i j hi h
theorem one_le (p : List Who) : ∀ (ks : List P.Rx) (i j : Nat), i < p.length + 1 → Rx.semOne p ks i j → i ≤ j ∧ j < p.length + 1
  | [], i, j, hi, h => by unfold Rx.semOne at h; exact h.elim
  | k :: ks, i, j, hi, h => by
    unfold Rx.semOne at h
    exact sem_le p k i j hi h
end
section
variable (p : List Who) (nm : Str) (ks : List P.Rx) (i j : Nat)
theorem sem4 : Rx.sem p (.mk 4 nm ks) i j ↔ Rx.semSeq p ks i j := by unfold Rx.sem; exact Iff.rfl
theorem sem5 : Rx.sem p (.mk 5 nm ks) i j ↔ Rx.semAlt p ks i j := by unfold Rx.sem; exact Iff.rfl
theorem sem6 (k : P.Rx) : Rx.sem p (.mk 6 nm [k]) i j ↔ (i = j ∨ Plus (Rx.sem p k) i j) := by
  have : Rx.semOne p [k] = Rx.sem p k := by funext a b; unfold Rx.semOne; rfl
  unfold Rx.sem; rw [this]; exact Iff.rfl
theorem sem7 (k : P.Rx) : Rx.sem p (.mk 7 nm [k]) i j ↔ Plus (Rx.sem p k) i j := by
  have : Rx.semOne p [k] = Rx.sem p k := by funext a b; unfold Rx.semOne; rfl
  unfold Rx.sem; rw [this]; exact Iff.rfl
theorem sem8 (k : P.Rx) : Rx.sem p (.mk 8 nm [k]) i j ↔ (i = j ∨ Rx.sem p k i j) := by
  have : Rx.semOne p [k] i j = Rx.sem p k i j := by unfold Rx.semOne; rfl
  rw [← this]
  conv => lhs; unfold Rx.sem
  exact Iff.rfl
end
theorem semSeq_app (p : List Who) : ∀ (a b : List P.Rx) (i j : Nat), Rx.semSeq p (a ++ b) i j ↔ ∃ q, Rx.semSeq p a i q ∧ Rx.semSeq p b q j
  | [], b, i, j => by
    rw [List.nil_append]
    constructor
    · exact fun h => ⟨i, by unfold Rx.semSeq; rfl, h⟩
    · rintro ⟨q, h1, h2⟩
      unfold Rx.semSeq at h1
      exact h1 ▸ h2
  | k :: a, b, i, j => by
    rw [List.cons_append]
    have e : ∀ l j, Rx.semSeq p (k :: l) i j ↔ ∃ q, Rx.sem p k i q ∧ Rx.semSeq p l q j := fun l j => by conv => lhs; unfold Rx.semSeq
    rw [e]
    constructor
    · rintro ⟨q, h1, h2⟩
      obtain ⟨q2, h3, h4⟩ := (semSeq_app p a b q j).1 h2
      exact ⟨q2, (e a q2).2 ⟨q, h1, h3⟩, h4⟩
    · rintro ⟨q2, h1, h4⟩
      obtain ⟨q, h1, h3⟩ := (e a q2).1 h1
      exact ⟨q, h1, (semSeq_app p a b q j).2 ⟨q2, h3, h4⟩⟩
theorem semAlt_app (p : List Who) : ∀ (a b : List P.Rx) (i j : Nat), Rx.semAlt p (a ++ b) i j ↔ Rx.semAlt p a i j ∨ Rx.semAlt p b i j
  | [], b, i, j => by
    rw [List.nil_append]
    constructor
    · exact .inr
    · rintro (h | h)
      · unfold Rx.semAlt at h; exact h.elim
      · exact h
  | k :: a, b, i, j => by
    rw [List.cons_append]
    have e : ∀ l, Rx.semAlt p (k :: l) i j ↔ Rx.sem p k i j ∨ Rx.semAlt p l i j := fun l => by conv => lhs; unfold Rx.semAlt
    rw [e, e, semAlt_app p a b i j, or_assoc]
theorem semSeq_one (p : List Who) (k : P.Rx) (i j : Nat) : Rx.semSeq p [k] i j ↔ Rx.sem p k i j := by
  unfold Rx.semSeq
  constructor
  · rintro ⟨q, h1, h2⟩
    unfold Rx.semSeq at h2
    exact h2 ▸ h1
  · exact fun h => ⟨j, h, by unfold Rx.semSeq; rfl⟩
theorem semAlt_one (p : List Who) (k : P.Rx) (i j : Nat) : Rx.semAlt p [k] i j ↔ Rx.sem p k i j := by
  unfold Rx.semAlt
  constructor
  · rintro (h | h)
    · exact h
    · unfold Rx.semAlt at h; exact h.elim
  · exact .inl
end Go.Vm.Rx
