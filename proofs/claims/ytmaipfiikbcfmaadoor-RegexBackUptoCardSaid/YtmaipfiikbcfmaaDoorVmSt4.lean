/- VmSt3, VmSt4 in one text. -/
import Derived.Test.YtmaipfiikbcfmaaDoorVmSt2
set_option linter.all false
/- A row that grows in a store that grows. -/
namespace Go.Vm
open Go
set_option linter.unusedVariables false
/-- S: A, one slot, and what has come since; d: a row of ds with room of its own behind A, or none -/
structure Grow (A : St) (s0 : Slot) (n : Nat) (S : St) (d : D) (ds : List D) : Prop where
  sto : ∃ L, S = A ++ s0 :: L
  row : (∃ c, A.length < c ∧ d = .sl (.own c 0) n ds ∧ S[c]? = some (.tok ds.length)) ∨ d = .sl .full n ds ∨ (d = .sl .full 0 [] ∧ ds = [])
variable {A S : St} {s0 : Slot} {n : Nat} {d : D} {ds : List D}
theorem Grow.nil (A : St) (s0 : Slot) (n : Nat) (L : St) : Grow A s0 n (A ++ s0 :: L) (.sl .full 0 []) [] := ⟨⟨L, rfl⟩, .inr (.inr ⟨rfl, rfl⟩)⟩
theorem Grow.app (g : Grow A s0 n S d ds) (M : St) {y : D} {new : List D} {w : Nat} (hy : appendNew n y = some new) (hl : ds.length + new.length ≤ 1000000000) (hw : w ≤ 100000) :
    ∃ d' S', appendO n w d y (S ++ M) = some (d', S') ∧ Grow A s0 n S' d' (ds ++ new) := by
  obtain ⟨⟨L, rfl⟩, hr⟩ := g
  have hro : roomOk (ds.length + new.length) w = true := by
    simp only [roomOk, decide_eq_true_eq]
    have := Nat.mul_le_mul hl hw
    omega
  have hl' : ds.length + new.length ≤ 9223372036854775807 := by omega
  have full : ∀ e, esOk .full e n ds = true → ∃ d' S', appendO n w (.sl .full e ds) y (A ++ s0 :: L ++ M) = some (d', S') ∧ Grow A s0 n S' d' (ds ++ new) := by
    intro e he
    cases new with
    | nil =>
      refine ⟨.sl .full n ds, A ++ s0 :: L ++ M, ?_, ⟨⟨L ++ M, by simp⟩, .inr (.inl (by simp))⟩⟩
      simp only [List.length_nil, Nat.add_zero] at hro hl'
      simp [appendO, hy, hro, hl', he]
    | cons x new =>
      refine ⟨.sl (.own (A ++ s0 :: L ++ M).length 0) n (ds ++ x :: new), A ++ s0 :: L ++ M ++ [.tok (ds.length + (x :: new).length)], ?_, ⟨⟨L ++ M ++ [.tok (ds.length + (x :: new).length)], by simp⟩, .inl ⟨_, ?_, rfl, ?_⟩⟩⟩
      · simp only [List.length_cons] at hro hl'
        simp [appendO, hy, hro, hl', he]
      · simp only [List.length_append, List.length_cons]; omega
      · rw [List.getElem?_append_right (Nat.le_refl _)]; simp
  rcases hr with ⟨c, hc, rfl, ht⟩ | rfl | ⟨rfl, rfl⟩
  · have hcl : c < (A ++ s0 :: L).length := by
      rcases Nat.lt_or_ge c (A ++ s0 :: L).length with h | h
      · exact h
      · rw [List.getElem?_eq_none h] at ht; cases ht
    refine ⟨.sl (.own c 0) n (ds ++ new), ((A ++ s0 :: L) ++ M).set c (.tok (ds.length + new.length)), ?_, ⟨⟨((s0 :: L ++ M).set (c - A.length) (.tok (ds.length + new.length))).drop 1, ?_⟩, .inl ⟨c, hc, rfl, ?_⟩⟩⟩
    · rw [append_own (s0 := 0) hy (by rw [List.getElem?_append_left hcl, ht]; simp) hro hl']
      simp
    · obtain ⟨m, hm⟩ : ∃ m, c - A.length = m + 1 := ⟨c - A.length - 1, by omega⟩
      rw [hm, List.append_assoc, List.set_append_right _ _ (by omega), hm]
      simp
    · rw [List.getElem?_set_self (by simp only [List.length_append] at hcl ⊢; omega)]
      simp
  · exact full n (by simp [esOk])
  · exact full 0 (by simp [esOk, Own.isOwn])
theorem Grow.app1 (g : Grow A s0 n S d ds) (M : St) {x : D} {w : Nat} (hl : ds.length + 1 ≤ 1000000000) (hw : w ≤ 100000) :
    ∃ d' S', appendO n w d (.sl .full n [x]) (S ++ M) = some (d', S') ∧ Grow A s0 n S' d' (ds ++ [x]) := g.app M (by simp [appendNew, esOk]) hl hw
theorem Grow.appL (g : Grow A s0 n S d ds) (M : St) {new : List D} {w : Nat} (hl : ds.length + new.length ≤ 1000000000) (hw : w ≤ 100000) :
    ∃ d' S', appendO n w d (encL n new) (S ++ M) = some (d', S') ∧ Grow A s0 n S' d' (ds ++ new) := g.app M (appendNew_encL n new) hl hw
theorem Grow.canon (g : Grow A s0 n S d ds) (h : PlainL ds) : d.canon = encL n ds := by
  rcases g.row with ⟨c, _, rfl, _⟩ | rfl | ⟨rfl, rfl⟩
  · exact canon_sl h _ _
  · exact canon_sl h _ _
  · rfl
theorem Grow.shut (g : Grow A s0 n S d ds) (h : PlainL ds) (m : Nat) : (d.shut m).canon = encL n ds := by
  rcases g.row with ⟨c, _, rfl, _⟩ | rfl | ⟨rfl, rfl⟩
  · simp only [shut_sl, h.shut]; exact canon_sl h _ _
  · simp only [shut_sl, h.shut]; exact canon_sl h _ _
  · rfl
theorem Grow.len (g : Grow A s0 n S d ds) : lenSlO d = some (.int .i64 ds.length) := by
  rcases g.row with ⟨c, _, rfl, _⟩ | rfl | ⟨rfl, rfl⟩ <;> rfl
theorem Grow.cell (g : Grow A s0 n S d ds) : d.cellsT false = some [d] := by
  rcases g.row with ⟨c, _, rfl, _⟩ | rfl | ⟨rfl, rfl⟩ <;> rfl
theorem Grow.take (g : Grow A s0 n S d ds) : S.take A.length = A := by obtain ⟨⟨L, rfl⟩, _⟩ := g; simp
end Go.Vm

/- A row that grows in a store that grows: how a function is left with it. -/
namespace Go.Vm
open Go
set_option linter.unusedVariables false
variable {A S : St} {s0 : Slot} {n : Nat} {d : D} {ds : List D}
theorem Grow.more (g : Grow A s0 n S d ds) (M : St) : Grow A s0 n (S ++ M) d ds := by
  obtain ⟨⟨L, rfl⟩, hr⟩ := g
  refine ⟨⟨L ++ M, by simp⟩, ?_⟩
  rcases hr with ⟨c, hc, rfl, ht⟩ | h
  · refine .inl ⟨c, hc, rfl, ?_⟩
    rw [List.getElem?_append_left ?_, ht]
    rcases Nat.lt_or_ge c (A ++ s0 :: L).length with h | h
    · exact h
    · rw [List.getElem?_eq_none h] at ht; cases ht
  · exact .inr h
theorem app_keeps {n w : Nat} {x y d' : D} {S S' : St} (h : appendO n w x y S = some (d', S')) : ∀ (j : Nat) (cs : List D), S[j]? = some (.cells cs) → S'[j]? = some (.cells cs) := by
  intro j cs hj
  have hlt : j < S.length := by
    rcases Nat.lt_or_ge j S.length with h | h
    · exact h
    · rw [List.getElem?_eq_none h] at hj; cases hj
  unfold appendO at h
  simp only [Option.bind_eq_some_iff] at h
  obtain ⟨new, _, h⟩ := h
  split at h
  · split at h
    · split at h
      · split at h
        · cases h; exact hj
        · cases h; rw [List.getElem?_append_left hlt]; exact hj
      · simp only [Option.bind_eq_some_iff] at h
        obtain ⟨s, hs, h⟩ := h
        split at h
        · split at h
          · cases h
            rw [List.getElem?_set]
            split
            · rename_i e; subst e; rw [hs] at hj; cases hj
            · exact hj
          · cases h
        · cases h
      · split at h
        · cases h; exact hj
        · cases h
    · cases h
  · cases h
theorem Grow.app0 (g : Grow A s0 n S d ds) {y : D} {new : List D} {w : Nat} (hy : appendNew n y = some new) (hl : ds.length + new.length ≤ 1000000000) (hw : w ≤ 100000) :
    ∃ d' S', appendO n w d y S = some (d', S') ∧ Grow A s0 n S' d' (ds ++ new) ∧ ∀ (j : Nat) (cs : List D), S[j]? = some (.cells cs) → S'[j]? = some (.cells cs) := by
  obtain ⟨d', S', h, g'⟩ := g.app [] hy hl hw
  rw [List.append_nil] at h
  exact ⟨d', S', h, g', app_keeps h⟩
theorem Grow.lit (A : St) (s0 : Slot) (n : Nat) (L : St) (ds : List D) : Grow A s0 n (A ++ s0 :: L) (.sl .full n ds) ds := ⟨⟨L, rfl⟩, .inr (.inl rfl)⟩
theorem Grow.acc {L : St} {b : Option Nat} (hb : AccOk b n ds) : Grow A s0 n (accA b (A ++ s0 :: L) ds) (accD b (A ++ s0 :: L).length n ds) ds := by
  cases b with
  | none =>
    refine ⟨⟨L ++ [.tok ds.length], by simp [accA]⟩, .inl ⟨(A ++ s0 :: L).length, by simp only [List.length_append, List.length_cons]; omega, rfl, ?_⟩⟩
    simp only [accA]
    rw [List.getElem?_append_right (Nat.le_refl _)]; simp
  | some e =>
    refine ⟨⟨L, rfl⟩, ?_⟩
    rcases hb with hb | hb | ⟨hb, h2⟩
    · cases hb
    · cases hb; exact .inr (.inl rfl)
    · cases hb; subst h2; exact .inr (.inr ⟨rfl, rfl⟩)
theorem Grow.accA (g : Grow A s0 n S d ds) (b : Option Nat) (es : List D) : Grow A s0 n (accA b S es) d ds := by
  cases b with
  | none => exact g.more _
  | some e => exact g
theorem Grow.leave (g : Grow A s0 n S d ds) (hp : PlainL ds) : ∃ b, AccOk b n ds ∧ leaveD RetK.own A (.ret d) S = some (.ret (accD b A.length n ds), Vm.accA b A ds) := by
  obtain ⟨⟨L, rfl⟩, hr⟩ := g
  have hk : Kept A (A ++ s0 :: L) := (qaj A (s0 :: L)).2 trivial
  rcases hr with ⟨c, hc, rfl, ht⟩ | rfl | ⟨rfl, rfl⟩
  · refine ⟨none, .own _ _, ?_⟩
    have hn : ¬ c < A.length := by omega
    simp [leaveD, guardP, hk, hn, ht, hp.shut, accD, Vm.accA]
  · exact ⟨some n, .full _ _, by simp [leaveD, guardP, hk, Res.shut, hp.shut, Own.shut, accD, Vm.accA]⟩
  · exact ⟨some 0, .nil _, by simp [leaveD, guardP, hk, Res.shut, D.shut, D.shutL, Own.shut, accD, Vm.accA]⟩
theorem Grow.box {cs : List D} (g : Grow A (.cells cs) n S d ds) {gg : Bool} {m off : Nat} : loadO gg m (.ref A.length off) S = ofCells gg cs off m := by
  obtain ⟨⟨L, rfl⟩, _⟩ := g
  exact ld0
theorem Grow.box_get {cs : List D} (g : Grow A (.cells cs) n S d ds) : S[A.length]? = some (.cells cs) := by
  obtain ⟨⟨L, rfl⟩, _⟩ := g
  simp
theorem load_get {cs : List D} {j : Nat} (h : S[j]? = some (.cells cs)) {gg : Bool} {m off : Nat} : loadO gg m (.ref j off) S = ofCells gg cs off m := by simp [loadO, h]
theorem appendNew_acc {b : Option Nat} {c : Nat} (hb : AccOk b n ds) : appendNew n (accD b c n ds) = some ds := by
  cases b with
  | none => simp [accD, appendNew, esOk]
  | some e =>
    rcases hb with hb | hb | ⟨hb, h2⟩
    · cases hb
    · cases hb; simp [accD, appendNew, esOk]
    · cases hb; subst h2; simp [accD, appendNew, esOk, Own.isOwn]
/-- a function is left with a row of its own -/
def RowOut (A : St) (n : Nat) (ds : List D) (x : Res × St) : Prop := ∃ b, AccOk b n ds ∧ x = (.ret (accD b A.length n ds), Vm.accA b A ds)
theorem Grow.out (g : Grow A s0 n S d ds) (hp : PlainL ds) : Tot (RowOut A n ds) (leaveD RetK.own A (.ret d) S) := by
  obtain ⟨b, hb, h⟩ := g.leave hp
  exact ⟨_, h, b, hb, rfl⟩
end Go.Vm
