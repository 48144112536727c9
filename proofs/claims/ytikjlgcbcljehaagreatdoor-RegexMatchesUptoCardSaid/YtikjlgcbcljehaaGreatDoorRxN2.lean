/- RxN, RxN2 in one text. -/
import Derived.Test.YtikjlgcbcljehaaGreatDoorVmSort
import Derived.Test.YtikjlgcbcljehaaGreatDoorRxPure3
set_option linter.all false
/- Names in their order: what sorting and leaving out comes to is what laying one by one comes to. -/
namespace Go.Vm.Rx
open Go Go.Proofs P
set_option linter.unusedVariables false
/-- strictly rising -/
def Ris (l : List Str) : Prop := l.Pairwise (· < ·)
theorem ris_ext : ∀ {a b : List Str}, Ris a → Ris b → (∀ x, x ∈ a ↔ x ∈ b) → a = b
  | [], [], _, _, _ => rfl
  | [], y :: b, _, _, h => by have := (h y).2 (by simp); simp at this
  | x :: a, [], _, _, h => by have := (h x).1 (by simp); simp at this
  | x :: a, y :: b, ha, hb, h => by
    unfold Ris at ha hb
    rw [List.pairwise_cons] at ha hb
    have hxy : x = y := by
      have h1 := (h x).1 (by simp)
      have h2 := (h y).2 (by simp)
      rw [List.mem_cons] at h1 h2
      rcases h1 with h1 | h1
      · exact h1
      · rcases h2 with h2 | h2
        · exact h2.symm
        · exact absurd (List.lt_trans (ha.1 y h2) (hb.1 x h1)) (List.lt_irrefl x)
    subst hxy
    rw [ris_ext ha.2 hb.2 fun z => ?_]
    have := h z
    simp only [List.mem_cons] at this
    constructor
    · intro hz
      rcases this.1 (.inr hz) with h1 | h1
      · subst h1; exact absurd (ha.1 z hz) (List.lt_irrefl z)
      · exact h1
    · intro hz
      rcases this.2 (.inr hz) with h1 | h1
      · subst h1; exact absurd (hb.1 z hz) (List.lt_irrefl z)
      · exact h1
/-- the model's order of texts is that of lists -/
theorem less_eq : ∀ (x y : Str), Op.bytesLess x y = decide (x < y)
  | [], [] => by simp [Op.bytesLess]
  | _ :: _, [] => by simp [Op.bytesLess]
  | [], _ :: _ => by simp [Op.bytesLess]
  | a :: x, b :: y => by
    rw [Op.bytesLess, less_eq x y]
    simp only [List.cons_lt_cons_iff]
    by_cases h1 : a < b <;> by_cases h2 : a = b <;> by_cases h3 : x < y <;> simp [h1, h2, h3]
theorem lss_t {s x : Str} (h : s < x) : binO .lss 3 false (.str s) (.str x) = some (.bool true) := by
  have : binO .lss 3 false (.str s) (.str x) = some (.bool (Op.bytesLess s x)) := rfl
  rw [this, less_eq, decide_eq_true h]
theorem lss_f {s x : Str} (h : ¬ s < x) : binO .lss 3 false (.str s) (.str x) = some (.bool false) := by
  have : binO .lss 3 false (.str s) (.str x) = some (.bool (Op.bytesLess s x)) := rfl
  rw [this, less_eq, decide_eq_false h]
/-- laid among those that rise, once -/
def putN (s : Str) : List Str → List Str
  | [] => [s]
  | x :: l => if x = s then x :: l else if s < x then s :: x :: l else x :: putN s l
theorem mem_putN (s : Str) : ∀ (l : List Str) (z : Str), z ∈ putN s l ↔ z = s ∨ z ∈ l
  | [], z => by simp [putN]
  | x :: l, z => by
    unfold putN
    split
    · rename_i h; subst h
      simp
    · split
      · simp
      · simp only [List.mem_cons, mem_putN s l z]
        constructor
        · rintro (h | h | h)
          · exact .inr (.inl h)
          · exact .inl h
          · exact .inr (.inr h)
        · rintro (h | h | h)
          · exact .inr (.inl h)
          · exact .inl h
          · exact .inr (.inr h)
theorem ris_putN (s : Str) : ∀ {l : List Str}, Ris l → Ris (putN s l)
  | [], _ => by simp [putN, Ris]
  | x :: l, h => by
    unfold Ris at h
    have h0 := h
    rw [List.pairwise_cons] at h
    unfold putN
    split
    · exact h0
    · rename_i hne
      split
      · rename_i hlt
        unfold Ris
        rw [List.pairwise_cons]
        refine ⟨fun z hz => ?_, h0⟩
        rcases List.mem_cons.1 hz with rfl | hz
        · exact hlt
        · exact List.lt_trans hlt (h.1 z hz)
      · rename_i hlt
        unfold Ris
        rw [List.pairwise_cons]
        refine ⟨fun z hz => ?_, ris_putN s h.2⟩
        rcases (mem_putN s l z).1 hz with rfl | hz
        · rcases List.le_iff_lt_or_eq.1 (List.not_lt.1 hlt) with h3 | h3
          · exact h3
          · exact absurd h3 hne
        · exact h.1 z hz
/-! left out: those that stand twice -/
theorem le_lt {a b c : Str} (h : a ≤ b) (g : b < c) : a < c := by
  rcases List.le_iff_lt_or_eq.1 h with h | h
  · exact List.lt_trans h g
  · subst h; exact g
theorem cmp_mem (d : Array Str) (z : Str) : ∀ (m : Nat), z ∈ Lib.compactUpTo d m ↔ ∃ j, j < m ∧ d[j]! = z
  | 0 => by simp [Lib.compactUpTo]
  | m + 1 => by
    have ih := cmp_mem d z m
    rw [Lib.compactUpTo_succ, List.mem_append, ih]
    constructor
    · rintro (⟨j, h1, h2⟩ | h)
      · exact ⟨j, by omega, h2⟩
      · split at h
        · exact ⟨m, by omega, (List.mem_singleton.1 h).symm⟩
        · cases h
    · rintro ⟨j, h1, h2⟩
      by_cases e : j = m
      · subst e
        by_cases hk : Lib.keeps d j = true
        · rw [if_pos hk]; exact .inr (by simp [h2])
        · left
          unfold Lib.keeps at hk
          simp only [decide_eq_true_eq, not_or, Classical.not_not] at hk
          exact ⟨j - 1, by omega, hk.2 ▸ h2⟩
      · exact .inl ⟨j, by omega, h2⟩
theorem cmp_ris (d : Array Str) (h : ∀ i j, i ≤ j → j < d.size → d[i]! ≤ d[j]!) : ∀ (m : Nat), m ≤ d.size → Ris (Lib.compactUpTo d m)
  | 0, _ => by simp [Lib.compactUpTo, Ris]
  | m + 1, hm => by
    have ih := cmp_ris d h m (by omega)
    rw [Lib.compactUpTo_succ]
    unfold Ris at *
    rw [List.pairwise_append]
    refine ⟨ih, by split <;> simp, fun x hx y hy => ?_⟩
    split at hy
    case isFalse => cases hy
    rename_i hk
    have := List.mem_singleton.1 hy
    subst this
    obtain ⟨j, h1, rfl⟩ := (cmp_mem d x m).1 hx
    unfold Lib.keeps at hk
    simp only [decide_eq_true_eq] at hk
    rcases hk with hk | hk
    · omega
    · refine le_lt (h j (m - 1) (by omega) (by omega)) ?_
      rcases List.le_iff_lt_or_eq.1 (h (m - 1) m (by omega) (by omega)) with h3 | h3
      · exact h3
      · exact absurd h3.symm hk
theorem compact_mem (l : List Str) (z : Str) : z ∈ Lib.compact l ↔ z ∈ l := by
  unfold Lib.compact
  rw [cmp_mem, List.mem_iff_getElem]
  constructor
  · rintro ⟨j, h1, h2⟩
    exact ⟨j, h1, by rw [← h2]; simp [h1]⟩
  · rintro ⟨j, h1, h2⟩
    exact ⟨j, h1, by rw [← h2]; simp [h1]⟩
theorem compact_ris (l : List Str) (h : l.Pairwise (· ≤ ·)) : Ris (Lib.compact l) := by
  refine cmp_ris l.toArray (fun i j hij hj => ?_) l.length (Nat.le_refl _)
  have hj' : j < l.length := by simpa using hj
  rcases Nat.eq_or_lt_of_le hij with rfl | hlt
  · exact List.le_refl _
  · have := List.pairwise_iff_getElem.1 h i j (by omega) hj' hlt
    simpa [hj', Nat.lt_trans hlt hj'] using this
theorem sorted_le (l : List Str) : (sorted l).Pairwise (· ≤ ·) := by
  have := List.pairwise_mergeSort (le := fun x y : Str => decide (x ≤ y)) (fun a b c h1 h2 => by
    simp only [decide_eq_true_eq] at *; exact List.le_trans h1 h2) (fun a b => by
    simp only [Bool.or_eq_true, decide_eq_true_eq]; exact List.le_total a b) l
  exact this.imp fun h => by simpa using h
theorem sorted_mem (l : List Str) (z : Str) : z ∈ sorted l ↔ z ∈ l := List.mem_mergeSort
/-- the names in their order, each once -/
def names (l : List Str) : List Str := Lib.compact (sorted l)
theorem names_ris (l : List Str) : Ris (names l) := compact_ris _ (sorted_le l)
theorem names_mem (l : List Str) (z : Str) : z ∈ names l ↔ z ∈ l := by unfold names; rw [compact_mem, sorted_mem]
end Go.Vm.Rx

/- Names of an expression. -/
namespace Go.Vm.Rx
open Go Go.Proofs P
set_option linter.unusedVariables false
mutual
/-- as the program finds them -/
def pn (op : Int) : Rx → List Str
  | .mk o nm ks => names ((if o = op then [nm] else []) ++ pnL op ks)
def pnL (op : Int) : List Rx → List Str
  | [] => []
  | k :: ks => pn op k ++ pnL op ks
end
mutual
/-- as the reference finds them -/
def rn (op : Int) : Rx → List Str → List Str
  | .mk o nm ks, l => rnL op ks (if o = op then putN nm l else l)
def rnL (op : Int) : List Rx → List Str → List Str
  | [], l => l
  | k :: ks, l => rnL op ks (rn op k l)
end
mutual
def occ (op : Int) (z : Str) : Rx → Prop
  | .mk o nm ks => (o = op ∧ z = nm) ∨ occL op z ks
def occL (op : Int) (z : Str) : List Rx → Prop
  | [] => False
  | k :: ks => occ op z k ∨ occL op z ks
end
mutual
theorem pn_mem (op : Int) (z : Str) : ∀ (r : Rx), z ∈ pn op r ↔ occ op z r
  | .mk o nm ks => by
    unfold pn occ
    rw [names_mem, List.mem_append, pnL_mem op z ks]
    by_cases h : o = op
    · simp [h]
    · simp [h]
theorem pnL_mem (op : Int) (z : Str) : ∀ (ks : List Rx), z ∈ pnL op ks ↔ occL op z ks
  | [] => by unfold pnL occL; simp
  | k :: ks => by
    unfold pnL occL
    rw [List.mem_append, pn_mem op z k, pnL_mem op z ks]
end
mutual
theorem rn_mem (op : Int) (z : Str) : ∀ (r : Rx) (l : List Str), z ∈ rn op r l ↔ occ op z r ∨ z ∈ l
  | .mk o nm ks, l => by
    unfold rn occ
    rw [rnL_mem op z ks]
    by_cases h : o = op
    · simp only [h, if_true, true_and, mem_putN]
      constructor
      · rintro (h | h | h)
        · exact .inl (.inr h)
        · exact .inl (.inl h)
        · exact .inr h
      · rintro ((h | h) | h)
        · exact .inr (.inl h)
        · exact .inl h
        · exact .inr (.inr h)
    · simp [h]
theorem rnL_mem (op : Int) (z : Str) : ∀ (ks : List Rx) (l : List Str), z ∈ rnL op ks l ↔ occL op z ks ∨ z ∈ l
  | [], l => by unfold rnL occL; simp
  | k :: ks, l => by
    unfold rnL occL
    rw [rnL_mem op z ks, rn_mem op z k]
    constructor
    · rintro (h | h | h)
      · exact .inl (.inr h)
      · exact .inl (.inl h)
      · exact .inr h
    · rintro ((h | h) | h)
      · exact .inr (.inl h)
      · exact .inl h
      · exact .inr (.inr h)
end
mutual
theorem rn_ris (op : Int) : ∀ (r : Rx) {l : List Str}, Ris l → Ris (rn op r l)
  | .mk o nm ks, l, h => by
    unfold rn
    refine rnL_ris op ks ?_
    split
    · exact ris_putN nm h
    · exact h
theorem rnL_ris (op : Int) : ∀ (ks : List Rx) {l : List Str}, Ris l → Ris (rnL op ks l)
  | [], l, h => by unfold rnL; exact h
  | k :: ks, l, h => by unfold rnL; exact rnL_ris op ks (rn_ris op k h)
end
theorem pn_ris (op : Int) (r : Rx) : Ris (pn op r) := by
  obtain ⟨o, nm, ks⟩ := r
  unfold pn
  exact names_ris _
theorem ris_nil : Ris [] := List.Pairwise.nil
theorem pn_rn (op : Int) (r : Rx) : pn op r = rn op r [] := ris_ext (pn_ris op r) (rn_ris op r ris_nil) fun z => by
  rw [pn_mem, rn_mem]; simp
theorem names_len (l : List Str) : (names l).length ≤ l.length := by
  unfold names
  have := Lib.compact_length_le (sorted l)
  rw [sorted_length] at this
  exact this
mutual
theorem pn_len (op : Int) : ∀ (r : Rx), (pn op r).length ≤ r.size
  | .mk o nm ks => by
    have h1 := pnL_len op ks
    have h2 := names_len ((if o = op then [nm] else []) ++ pnL op ks)
    have h3 := Rx.size_eq (.mk o nm ks)
    unfold pn
    rw [List.length_append] at h2
    have h4 : (if o = op then [nm] else []).length ≤ 1 := by split <;> simp
    simp only [Rx.ks] at h3
    omega
theorem pnL_len (op : Int) : ∀ (ks : List Rx), (pnL op ks).length ≤ Rx.sizes ks
  | [] => by simp [pnL]
  | k :: ks => by
    have h1 := pn_len op k
    have h2 := pnL_len op ks
    simp only [pnL, List.length_append, Rx.sizes]
    omega
end
theorem putN_len (s : Str) : ∀ (l : List Str), (putN s l).length ≤ l.length + 1
  | [] => by simp [putN]
  | x :: l => by
    have := putN_len s l
    unfold putN
    split
    · simp
    · split
      · simp
      · simp only [List.length_cons]; omega
mutual
theorem rn_len (op : Int) : ∀ (r : Rx) (l : List Str), (rn op r l).length ≤ r.size + l.length
  | .mk o nm ks, l => by
    have h1 := rnL_len op ks (if o = op then putN nm l else l)
    have h2 := putN_len nm l
    have h3 := Rx.size_eq (.mk o nm ks)
    simp only [Rx.ks] at h3
    unfold rn
    have h4 : (if o = op then putN nm l else l).length ≤ l.length + 1 := by split <;> omega
    omega
theorem rnL_len (op : Int) : ∀ (ks : List Rx) (l : List Str), (rnL op ks l).length ≤ Rx.sizes ks + l.length
  | [], l => by simp [rnL]
  | k :: ks, l => by
    have h1 := rn_len op k l
    have h2 := rnL_len op ks (rn op k l)
    simp only [rnL, Rx.sizes]
    omega
end
/-! when two rows of texts are the same -/
end Go.Vm.Rx
