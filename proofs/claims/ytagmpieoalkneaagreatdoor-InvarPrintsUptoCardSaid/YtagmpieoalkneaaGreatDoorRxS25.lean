/- RxS23, VmSt3, RxS24, RxS25 in one text. -/
import Derived.Test.YtagmpieoalkneaaGreatDoorRxS22
import Derived.Test.YtagmpieoalkneaaGreatDoorRxS13
set_option linter.all false
/- The program's reader of words: its small functions. -/
namespace Go.Vm.Rx
open Go Go.Proofs P
set_option maxRecDepth 10000
set_option maxHeartbeats 1100000
def psC (l : List Word) (i o : Int) : List D := [encL 3 (l.map encW), .int .i64 i, .int .i64 o]
section
variable (l : List Word) (i o x : Int)
end
def idxStr (w : Str) : List Str → Int → Int
  | [], _ => -1
  | x :: r, i => if w = x then i else idxStr w r (i + 1)
end Go.Vm.Rx

/- A row that grows in a store that grows. -/
namespace Go.Vm
open Go
structure Grow (A : St) (s0 : Slot) (n : Nat) (S : St) (d : D) (ds : List D) : Prop where
  sto : ∃ L, S = A ++ s0 :: L
  row : (∃ c, A.length < c ∧ d = .sl (.own c 0) n ds ∧ S[c]? = some (.tok ds.length)) ∨ d = .sl .full n ds ∨ (d = .sl .full 0 [] ∧ ds = [])
variable {A S : St} {s0 : Slot} {n : Nat} {d : D} {ds : List D}
theorem Grow.nil (A : St) (s0 : Slot) (n : Nat) (L : St) : Grow A s0 n (A ++ s0 :: L) (.sl .full 0 []) [] := ⟨⟨L, rfl⟩, .inr (.inr ⟨rfl, rfl⟩)⟩
theorem Grow.app (g : Grow A s0 n S d ds) (M : St) {y : D} {new : List D} {w : Nat} (hy : appendNew n y = some new) (hl : ds.length + new.length ≤ 1000000000) (hw : w ≤ 100000) :
    ∃ d' S', appendO n w d y (S ++ M) = some (d', S') ∧ Grow A s0 n S' d' (ds ++ new) := by
  obtain ⟨⟨L, rfl⟩, hr⟩ := g
  have hro : roomOk (ds.length + new.length) w = true := by
    simp only [roomOk, decide_eq_true_eq]
    have := Nat.mul_le_mul hl hw
    omega
  have hl' : ds.length + new.length ≤ 9223372036854775807 := by omega
  have full : ∀ e, esOk .full e n ds = true → ∃ d' S', appendO n w (.sl .full e ds) y (A ++ s0 :: L ++ M) = some (d', S') ∧ Grow A s0 n S' d' (ds ++ new) := by
    intro e he
    cases new with
    | nil =>
      refine ⟨.sl .full n ds, A ++ s0 :: L ++ M, ?_, ⟨⟨L ++ M, by simp⟩, .inr (.inl (by simp))⟩⟩
      simp only [List.length_nil, Nat.add_zero] at hro hl'
      simp [appendO, appendS, hy, hro, hl', he]
    | cons x new =>
      refine ⟨.sl (.own (A ++ s0 :: L ++ M).length 0) n (ds ++ x :: new), A ++ s0 :: L ++ M ++ [.tok (ds.length + (x :: new).length)], ?_, ⟨⟨L ++ M ++ [.tok (ds.length + (x :: new).length)], by simp⟩, .inl ⟨_, ?_, rfl, ?_⟩⟩⟩
      · simp only [List.length_cons] at hro hl'
        simp [appendO, appendS, hy, hro, hl', he]
      · simp only [List.length_append, List.length_cons]; omega
      · rw [List.getElem?_append_right (Nat.le_refl _)]; simp
  rcases hr with ⟨c, hc, rfl, ht⟩ | rfl | ⟨rfl, rfl⟩
  · have hcl : c < (A ++ s0 :: L).length := by
      rcases Nat.lt_or_ge c (A ++ s0 :: L).length with h | h
      · exact h
      · rw [List.getElem?_eq_none h] at ht; cases ht
    refine ⟨.sl (.own c 0) n (ds ++ new), ((A ++ s0 :: L) ++ M).set c (.tok (ds.length + new.length)), ?_, ⟨⟨((s0 :: L ++ M).set (c - A.length) (.tok (ds.length + new.length))).drop 1, ?_⟩, .inl ⟨c, hc, rfl, ?_⟩⟩⟩
    · rw [append_own (s0 := 0) hy (by rw [List.getElem?_append_left hcl, ht]; simp) hro hl']
      simp
    · obtain ⟨m, hm⟩ : ∃ m, c - A.length = m + 1 := ⟨c - A.length - 1, by omega⟩
      rw [hm, List.append_assoc, List.set_append_right _ _ (by omega), hm]
      simp
    · rw [List.getElem?_set_self (by simp only [List.length_append] at hcl ⊢; omega)]
      simp
  · exact full n (by simp [esOk])
  · exact full 0 (by simp [esOk, Own.isOwn])
theorem Grow.app1 (g : Grow A s0 n S d ds) (M : St) {x : D} {w : Nat} (hl : ds.length + 1 ≤ 1000000000) (hw : w ≤ 100000) :
    ∃ d' S', appendO n w d (.sl .full n [x]) (S ++ M) = some (d', S') ∧ Grow A s0 n S' d' (ds ++ [x]) := g.app M (by simp [appendNew, esOk]) hl hw
theorem Grow.appL (g : Grow A s0 n S d ds) (M : St) {new : List D} {w : Nat} (hl : ds.length + new.length ≤ 1000000000) (hw : w ≤ 100000) :
    ∃ d' S', appendO n w d (encL n new) (S ++ M) = some (d', S') ∧ Grow A s0 n S' d' (ds ++ new) := g.app M (appendNew_encL n new) hl hw
theorem Grow.canon (g : Grow A s0 n S d ds) (h : PlainL ds) : d.canon = encL n ds := by
  rcases g.row with ⟨c, _, rfl, _⟩ | rfl | ⟨rfl, rfl⟩
  · exact canon_sl h _ _
  · exact canon_sl h _ _
  · rfl
theorem Grow.shut (g : Grow A s0 n S d ds) (h : PlainL ds) (m : Nat) : (d.shut m).canon = encL n ds := by
  rcases g.row with ⟨c, _, rfl, _⟩ | rfl | ⟨rfl, rfl⟩
  · simp only [shut_sl, h.shut]; exact canon_sl h _ _
  · simp only [shut_sl, h.shut]; exact canon_sl h _ _
  · rfl
theorem Grow.len (g : Grow A s0 n S d ds) : lenSlO d = some (.int .i64 ds.length) := by
  rcases g.row with ⟨c, _, rfl, _⟩ | rfl | ⟨rfl, rfl⟩ <;> rfl
theorem Grow.cell (g : Grow A s0 n S d ds) : d.cellsT false = some [d] := by
  rcases g.row with ⟨c, _, rfl, _⟩ | rfl | ⟨rfl, rfl⟩ <;> rfl
theorem Grow.take (g : Grow A s0 n S d ds) : S.take A.length = A := by obtain ⟨⟨L, rfl⟩, _⟩ := g; simp
end Go.Vm

/- Several expressions as one: the program's join. -/
namespace Go.Vm.Rx
open Go Go.Proofs P
set_option maxRecDepth 10000
set_option maxHeartbeats 2000000
end Go.Vm.Rx

/- The program's reader of words: rows of alternatives. -/
namespace Go.Vm.Rx
open Go Go.Proofs P
set_option maxRecDepth 10000
set_option maxHeartbeats 400000
variable {l : List Word} (hl : l.length ≤ 1100000) (hw : ∀ w, w ∈ l → w.t.length ≤ 100000000)
def progOut (A : St) (k : Nat) (l : List Word) (o : Nat) (x : Except (Nat × Int) (Rx × Nat)) (r : Res × St) : Prop :=
  match x with
  | .ok (e, j) => r = (.ret (encRx e), st A k (psC l (j : Nat) (o : Nat)))
  | .error (a, c) => ∃ i' o' : Int, r = (.pan (.iface 164 (.agg [.int .i64 (a : Nat), .int .i64 c])), st A k (psC l i' o'))
structure ProgSpec (l : List Word) (n : Nat) : Prop where
  alt : ∀ A k o i x, k < A.length → i ≤ l.length → o ≤ 50 → pAlt l n o i = some x → Tot (progOut A k l o x) (f113 (.ref k 0) (st A k (psC l (i : Nat) (o : Nat))))
  alts : ∀ A k o i i0 acc b x r0 r1 r2, k < A.length → i0 < i → i ≤ l.length → acc ≠ [] → Rx.sizes acc + acc.length ≤ 2 * (i - i0) → Rx.Nms acc → AccOk b 3 (acc.map encRx) → o ≤ 50 → pAlts l n o i acc = some x →
    Tot (progOut A k l o x) (LP Tryz.prog rxA 113 [0, 0, 1, 1] [(st A k (psC l (i0 : Nat) (o : Nat)))] (Env.mk (sp [(0, .ref k 0), (1, .ref A.length 0), (0, accD b (A.length + 1) 3 (acc.map encRx))] 28) []) (st (accA b (A ++ [.cells [r0, r1, r2]]) (acc.map encRx)) k (psC l (i : Nat) (o : Nat))))
  seq : ∀ A k o i x, k < A.length → i ≤ l.length → o ≤ 50 → pSeq l n o i = some x → Tot (progOut A k l o x) (f145 (.ref k 0) (st A k (psC l (i : Nat) (o : Nat))))
  seqs : ∀ A k o i i0 acc b x r0 r1 r2, k < A.length → i0 < i → i ≤ l.length → acc ≠ [] → Rx.sizes acc + acc.length ≤ 2 * (i - i0) → Rx.Nms acc → AccOk b 3 (acc.map encRx) → o ≤ 50 → pSeqs l n o i acc = some x →
    Tot (progOut A k l o x) (LP Tryz.prog rxA 145 [0, 1, 0, 1, 1] [(st A k (psC l (i0 : Nat) (o : Nat)))] (Env.mk (sp [(0, .ref k 0), (1, .ref A.length 0), (0, accD b (A.length + 1) 3 (acc.map encRx)), (0, .str (wordAt l i))] 38) []) (st (accA b (A ++ [.cells [r0, r1, r2]]) (acc.map encRx)) k (psC l (i : Nat) (o : Nat))))
  rep : ∀ A k o i x, k < A.length → i ≤ l.length → o ≤ 50 → pRep l n o i = some x → Tot (progOut A k l o x) (f171 (.ref k 0) (st A k (psC l (i : Nat) (o : Nat))))
  atom : ∀ A k o i x, k < A.length → i ≤ l.length → o ≤ 50 → pAtom l n o i = some x → Tot (progOut A k l o x) (f195 (.ref k 0) (st A k (psC l (i : Nat) (o : Nat))))
theorem canon1 (a : Str) : (D.sl .full 1 [.str a]).canon = encL 1 ([a].map .str) := rfl
include hl hw
end Go.Vm.Rx
