/- RxS15, RxS16 in one text. -/
import Derived.Test.YtmaipfiikbcfmaaDoorRxS14
import Derived.Test.YtmaipfiikbcfmaaDoorRxPure3
set_option linter.all false
/- The reference's reader of words: rows of alternatives and parts. -/
namespace Go.Vm.Rx
open Go Go.Proofs P
set_option linter.unusedVariables false
set_option linter.unusedSimpArgs false
set_option maxRecDepth 10000
set_option maxHeartbeats 2000000
section
variable (l : List Word) (i o b a x : Int)
end
/-- what a reader of the reference comes to; G: how great what it gives at a fault may be -/
def refOut (A : St) (k : Nat) (l : List Word) (o i G : Nat) (x : Except (Nat × Int) (Rx × Nat)) (r : Res × St) : Prop :=
  match x with
  | .ok (e, j) => r = (.ret (encRx e), st A k (rdC l j o 0 0))
  | .error (a, c) => ∃ (e : Rx) (i' : Nat), r = (.ret (encRx e), st A k (rdC l i' o c a)) ∧ e.size ≤ 4 * (a - i) + G ∧ i' + o ≤ l.length + 52
theorem join_two {op : Int} {l : List Rx} (hone : ∀ r, l ≠ [r]) : join op l = match flat op l with | [r] => r | ks => .mk op [] ks := by
  unfold join
  split
  · rename_i r; exact absurd rfl (hone r)
  · rfl
theorem joinR_two {op : Int} {l : List Rx} (hone : ∀ r, l ≠ [r]) : joinR op l = joinF op (flat op l) := by
  unfold joinR joinF
  split
  · rename_i r; exact absurd rfl (hone r)
  · rfl
theorem one_or {l : List Rx} : (∃ r, l = [r]) ∨ ∀ r, l ≠ [r] := by
  by_cases h : ∃ r, l = [r]
  · exact .inl h
  · exact .inr fun r e => h ⟨r, e⟩
theorem joinR_4 (l : List Rx) : joinR 4 l = join 4 l := by
  rcases one_or (l := l) with ⟨r, rfl⟩ | h
  · rfl
  · rw [join_two h, joinR_two h]
    unfold joinF
    cases flat 4 l with
    | nil => rfl
    | cons r t => cases t <;> rfl
theorem joinR_5 {l : List Rx} (hne : l ≠ []) (h : Rx.Nms l) : joinR 5 l = join 5 l := by
  rcases one_or (l := l) with ⟨r, rfl⟩ | hone
  · rfl
  · have h1 := flat_long l h
    have h2 := two_long hne hone
    rw [join_two hone, joinR_two hone]
    unfold joinF
    cases hf : flat 5 l with
    | nil => rfl
    | cons r t => cases t with
      | nil => rw [hf] at h1; simp only [List.length_cons, List.length_nil] at h1; omega
      | cons _ _ => rfl
theorem flat_len (op : Int) (l : List Rx) : (flat op l).length ≤ Rx.sizes l := Nat.le_trans (Rx.len_sizes _) (flat_sizes op l)
variable {l : List Word} (hl : l.length ≤ 1000000) (hw : ∀ w, w ∈ l → w.t.length ≤ 100000000)
include hl
/-! alternatives -/
end Go.Vm.Rx

/- The reference's reader of words: parts in turn; the steps of the induction. -/
namespace Go.Vm.Rx
open Go Go.Proofs P
set_option linter.unusedVariables false
set_option linter.unusedSimpArgs false
set_option maxRecDepth 10000
set_option maxHeartbeats 400000
variable {l : List Word} (hl : l.length ≤ 1000000) (hw : ∀ w, w ∈ l → w.t.length ≤ 100000000)
/-- what the reference's readers come to, by the bound on steps -/
structure RefSpec (l : List Word) (n : Nat) : Prop where
  alt : ∀ A k o i x, k < A.length → i ≤ l.length → o ≤ 50 → pAlt l n o i = some x → Tot (refOut A k l o i 3 x) (f33 mL (Run Tryd.prog rxA) (Dcall Tryd.prog rxA) (.ref k 0) (st A k (rdC l (i : Nat) (o : Nat) 0 0)))
  alts : ∀ A k o i i0 acc b x r0 r1 r2 y, k < A.length → i0 < i → i ≤ l.length → acc ≠ [] → Rx.sizes acc + acc.length ≤ 2 * (i - i0) → Rx.Nms acc → AccOk b 3 (acc.map encRx) → o ≤ 50 → pAlts l n o i acc = some x →
    Tot (refOut A k l o i0 3 x) (iterK (f33_s0 mL (Run Tryd.prog rxA) (Dcall Tryd.prog rxA) (st A k (rdC l (i0 : Nat) (o : Nat) 0 0))) (Env.mk (sp [(0, .ref k 0), (1, .ref A.length 0), (0, accD b (A.length + 1) 3 (acc.map encRx)), (21, y)] 5) []) (st (accA b (A ++ [.cells [r0, r1, r2]]) (acc.map encRx)) k (rdC l (i : Nat) (o : Nat) 0 0)))
  seq : ∀ A k o i x, k < A.length → i ≤ l.length → o ≤ 50 → pSeq l n o i = some x → Tot (refOut A k l o i 2 x) (f55 mL (Run Tryd.prog rxA) (Dcall Tryd.prog rxA) (.ref k 0) (st A k (rdC l (i : Nat) (o : Nat) 0 0)))
  seqs : ∀ A k o i i0 acc b x r0 r1 r2, k < A.length → i0 < i → i ≤ l.length → acc ≠ [] → Rx.sizes acc + acc.length ≤ 2 * (i - i0) → Rx.Nms acc → AccOk b 3 (acc.map encRx) → o ≤ 50 → pSeqs l n o i acc = some x →
    Tot (refOut A k l o i0 2 x) (iterK (f55_s0 mL (Run Tryd.prog rxA) (Dcall Tryd.prog rxA) (st A k (rdC l (i0 : Nat) (o : Nat) 0 0))) (Env.mk (sp [(0, .ref k 0), (1, .ref A.length 0), (0, accD b (A.length + 1) 3 (acc.map encRx))] 19) []) (st (accA b (A ++ [.cells [r0, r1, r2]]) (acc.map encRx)) k (rdC l (i : Nat) (o : Nat) 0 0)))
  rep : ∀ A k o i x, k < A.length → i ≤ l.length → o ≤ 50 → pRep l n o i = some x → Tot (refOut A k l o i 1 x) (f78 mL (Run Tryd.prog rxA) (Dcall Tryd.prog rxA) (.ref k 0) (st A k (rdC l (i : Nat) (o : Nat) 0 0)))
  atom : ∀ A k o i x, k < A.length → i ≤ l.length → o ≤ 50 → pAtom l n o i = some x → Tot (refOut A k l o i 1 x) (f98 mL (Run Tryd.prog rxA) (Dcall Tryd.prog rxA) (.ref k 0) (st A k (rdC l (i : Nat) (o : Nat) 0 0)))
include hl
include hw
end Go.Vm.Rx
