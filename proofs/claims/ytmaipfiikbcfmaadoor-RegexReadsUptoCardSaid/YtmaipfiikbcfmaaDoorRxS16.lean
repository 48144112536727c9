/- RxS15, RxS16 in one text. -/
import Derived.Test.YtmaipfiikbcfmaaDoorRxS14
import Derived.Test.YtmaipfiikbcfmaaDoorRxPure3
set_option linter.all false
/- The reference's reader of words: rows of alternatives and parts. -/
namespace Go.Vm.Rx
open Go Go.Proofs P
set_option linter.unusedVariables false
set_option linter.unusedSimpArgs false
set_option maxRecDepth 10000
set_option maxHeartbeats 2000000
section
variable (l : List Word) (i o b a x : Int)
theorem rdl0 : ofCells false (rdC l i o b a) 0 1 = some (encL 3 (l.map encW)) := rfl
theorem rdl1 : ofCells false (rdC l i o b a) 1 1 = some (.int .i64 i) := rfl
theorem rdl2 : ofCells false (rdC l i o b a) 2 1 = some (.int .i64 o) := rfl
theorem rdl3 : ofCells false (rdC l i o b a) 3 1 = some (.int .i64 b) := rfl
theorem rdl4 : ofCells false (rdC l i o b a) 4 1 = some (.int .i64 a) := rfl
theorem rds1 : layCells false 1 1 (rdC l i o b a) (.int .i64 x) = some (rdC l x o b a) := rfl
theorem rds2 : layCells false 1 2 (rdC l i o b a) (.int .i64 x) = some (rdC l i x b a) := rfl
end
/-- what a reader of the reference comes to; G: how great what it gives at a fault may be -/
def refOut (A : St) (k : Nat) (l : List Word) (o i G : Nat) (x : Except (Nat × Int) (Rx × Nat)) (r : Res × St) : Prop :=
  match x with
  | .ok (e, j) => r = (.ret (encRx e), st A k (rdC l j o 0 0))
  | .error (a, c) => ∃ (e : Rx) (i' : Nat), r = (.ret (encRx e), st A k (rdC l i' o c a)) ∧ e.size ≤ 4 * (a - i) + G ∧ i' + o ≤ l.length + 52
theorem joinR_size (op : Int) (l : List Rx) : (joinR op l).size ≤ Rx.sizes l + 1 := by
  unfold joinR
  split
  · simp only [Rx.sizes]; omega
  · have := flat_sizes op l
    split
    · rename_i r hr
      rw [hr] at this
      simp only [Rx.sizes] at this
      split
      · omega
      · simp only [Rx.size, Rx.sizes]; omega
    · simp only [Rx.size]; omega
theorem join_two {op : Int} {l : List Rx} (hone : ∀ r, l ≠ [r]) : join op l = match flat op l with | [r] => r | ks => .mk op [] ks := by
  unfold join
  split
  · rename_i r; exact absurd rfl (hone r)
  · rfl
theorem joinR_two {op : Int} {l : List Rx} (hone : ∀ r, l ≠ [r]) : joinR op l = joinF op (flat op l) := by
  unfold joinR joinF
  split
  · rename_i r; exact absurd rfl (hone r)
  · rfl
theorem one_or {l : List Rx} : (∃ r, l = [r]) ∨ ∀ r, l ≠ [r] := by
  by_cases h : ∃ r, l = [r]
  · exact .inl h
  · exact .inr fun r e => h ⟨r, e⟩
theorem joinR_4 (l : List Rx) : joinR 4 l = join 4 l := by
  rcases one_or (l := l) with ⟨r, rfl⟩ | h
  · rfl
  · rw [join_two h, joinR_two h]
    unfold joinF
    cases flat 4 l with
    | nil => rfl
    | cons r t => cases t <;> rfl
theorem joinR_5 {l : List Rx} (hne : l ≠ []) (h : Rx.Nms l) : joinR 5 l = join 5 l := by
  rcases one_or (l := l) with ⟨r, rfl⟩ | hone
  · rfl
  · have h1 := flat_long l h
    have h2 := two_long hne hone
    rw [join_two hone, joinR_two hone]
    unfold joinF
    cases hf : flat 5 l with
    | nil => rfl
    | cons r t => cases t with
      | nil => rw [hf] at h1; simp only [List.length_cons, List.length_nil] at h1; omega
      | cons _ _ => rfl
theorem flat_len (op : Int) (l : List Rx) : (flat op l).length ≤ Rx.sizes l := Nat.le_trans (Rx.len_sizes _) (flat_sizes op l)
variable {l : List Word} (hl : l.length ≤ 1000000) (hw : ∀ w, w ∈ l → w.t.length ≤ 100000000)
include hl
/-! alternatives -/
theorem refAlt_exit (A : St) (k : Nat) (hk : k < A.length) (i o a : Nat) (c : Int) (i0 o0 c0 a0 : Int) (acc : List Rx) (b : Option Nat) (r0 r1 r2 y : D) (hb : AccOk b 3 (acc.map encRx)) (hs : Rx.sizes acc ≤ 90000000) (hi : i ≤ 2000000)
    (hc : c = 0 → wordAt l i ≠ [124]) :
    iterK (f33_s0 mL (Run Tryd.prog rxA) (Dcall Tryd.prog rxA) (st A k (rdC l i0 o0 c0 a0))) (Env.mk (sp [(0, .ref k 0), (1, .ref A.length 0), (0, accD b (A.length + 1) 3 (acc.map encRx)), (21, y)] 5) []) (st (accA b (A ++ [.cells [r0, r1, r2]]) (acc.map encRx)) k (rdC l i o c a)) =
      some (.ret (encRx (joinR 5 acc)), st A k (rdC l i o c a)) := by
  have hwd := s56 (accA b (A ++ [.cells [r0, r1, r2]]) (acc.map encRx)) k l i o c a (lenA (lenL hk)) (by omega) (by omega)
  have hls := Rx.len_sizes acc
  have hfl := flat_len 5 acc
  have hj := fun A => s19 A 5 acc (by omega) (by omega)
  have hcn := acc_canon (c := A.length + 1) hb (plainRxs acc)
  have hkp := fun L b ds => stA_Kept (A := A) (k := k) (cs := rdC l i0 o0 c0 a0) (cs' := rdC l i o c a) (L := L) (b := b) (ds := ds) (rdC_shut _ _ _ _ _ _)
  refine Tot.eq (Tot.iter ?_)
  conv => arg 2; arg 1; unfold f33_s0
  by_cases hc0 : c = 0
  · have hne := hc hc0
    subst hc0
    (repeat' first | (with_reducible first | apply Tot.of (qaa rfl) | apply Tot.of (qau rfl) | apply Tot.of (qa2 rfl) | apply Tot.of (qa4 rfl) | apply Tot.of (qak rfl) | apply Tot.of (qa0 rfl) | apply Tot.of (qav rfl) | apply Tot.of (st_inr rfl) | apply Tot.of (qat rfl) | apply Tot.gbl (b := true) | apply Tot.bql (b := true) | apply Tot.iff | apply Tot.iftt | (apply Tot.seql_f; first | assumption | decide | exact List.cons_ne_nil _ _)) | ((conv => arg 2; arg 1; simp (disch := first | omega | assumption) only [qbg, qac, Option.map_some, Option.bind_some, qad, qal, qah, qae, Nat.zero_add, ofA3, packD, qa5, qa8, qba, qaw, qaj, qai, qap, qab, qaf, qag, stAL_load, acc_ld0, acc_sto0, st_ldo, st_sto, stA_take, rdl3, r56, hwd, hcn, r19, hj, rx_lay, rx_fold, hkp]); (with_reducible first | apply Tot.of (qaa rfl) | apply Tot.bql (b := false) | (apply Tot.eql_t; omega))))
    ((try conv => arg 2; simp (disch := first | omega | assumption) only [rx_shut, qa9]); refine Tot.ret ?_)
    rfl
  · (repeat' first | (with_reducible first | apply Tot.of (qaa rfl) | apply Tot.of (qau rfl) | apply Tot.of (qa2 rfl) | apply Tot.of (qa4 rfl) | apply Tot.of (qak rfl) | apply Tot.of (qa0 rfl) | apply Tot.of (qav rfl) | apply Tot.of (st_inr rfl) | apply Tot.of (qat rfl) | apply Tot.gbl (b := false) | apply Tot.bql (b := false) | apply Tot.iff | apply Tot.ifft) | ((conv => arg 2; arg 1; simp (disch := first | omega | assumption) only [qa7, qac, Option.map_some, Option.bind_some, qad, qal, qah, qae, Nat.zero_add, ofA3, packD, qa5, qa8, qba, qaw, qaj, qai, qab, qaf, qag, stAL_load, acc_ld0, acc_sto0, st_ldo, st_sto, stA_take, rdl3, hcn, r19, hj, rx_lay, rx_fold, hkp]); (with_reducible first | apply Tot.of (qaa rfl) | apply Tot.bql (b := false) | (apply Tot.eql_f; omega))))
    ((try conv => arg 2; simp (disch := first | omega | assumption) only [rx_shut, qa9]); refine Tot.ret ?_)
    rfl
end Go.Vm.Rx

/- The reference's reader of words: parts in turn; the steps of the induction. -/
namespace Go.Vm.Rx
open Go Go.Proofs P
set_option linter.unusedVariables false
set_option linter.unusedSimpArgs false
set_option maxRecDepth 10000
set_option maxHeartbeats 400000
variable {l : List Word} (hl : l.length ≤ 1000000) (hw : ∀ w, w ∈ l → w.t.length ≤ 100000000)
/-- what the reference's readers come to, by the bound on steps -/
structure RefSpec (l : List Word) (n : Nat) : Prop where
  alt : ∀ A k o i x, k < A.length → i ≤ l.length → o ≤ 50 → pAlt l n o i = some x → Tot (refOut A k l o i 3 x) (f33 mL (Run Tryd.prog rxA) (Dcall Tryd.prog rxA) (.ref k 0) (st A k (rdC l (i : Nat) (o : Nat) 0 0)))
  alts : ∀ A k o i i0 acc b x r0 r1 r2 y, k < A.length → i0 < i → i ≤ l.length → acc ≠ [] → Rx.sizes acc + acc.length ≤ 2 * (i - i0) → Rx.Nms acc → AccOk b 3 (acc.map encRx) → o ≤ 50 → pAlts l n o i acc = some x →
    Tot (refOut A k l o i0 3 x) (iterK (f33_s0 mL (Run Tryd.prog rxA) (Dcall Tryd.prog rxA) (st A k (rdC l (i0 : Nat) (o : Nat) 0 0))) (Env.mk (sp [(0, .ref k 0), (1, .ref A.length 0), (0, accD b (A.length + 1) 3 (acc.map encRx)), (21, y)] 5) []) (st (accA b (A ++ [.cells [r0, r1, r2]]) (acc.map encRx)) k (rdC l (i : Nat) (o : Nat) 0 0)))
  seq : ∀ A k o i x, k < A.length → i ≤ l.length → o ≤ 50 → pSeq l n o i = some x → Tot (refOut A k l o i 2 x) (f55 mL (Run Tryd.prog rxA) (Dcall Tryd.prog rxA) (.ref k 0) (st A k (rdC l (i : Nat) (o : Nat) 0 0)))
  seqs : ∀ A k o i i0 acc b x r0 r1 r2, k < A.length → i0 < i → i ≤ l.length → acc ≠ [] → Rx.sizes acc + acc.length ≤ 2 * (i - i0) → Rx.Nms acc → AccOk b 3 (acc.map encRx) → o ≤ 50 → pSeqs l n o i acc = some x →
    Tot (refOut A k l o i0 2 x) (iterK (f55_s0 mL (Run Tryd.prog rxA) (Dcall Tryd.prog rxA) (st A k (rdC l (i0 : Nat) (o : Nat) 0 0))) (Env.mk (sp [(0, .ref k 0), (1, .ref A.length 0), (0, accD b (A.length + 1) 3 (acc.map encRx))] 19) []) (st (accA b (A ++ [.cells [r0, r1, r2]]) (acc.map encRx)) k (rdC l (i : Nat) (o : Nat) 0 0)))
  rep : ∀ A k o i x, k < A.length → i ≤ l.length → o ≤ 50 → pRep l n o i = some x → Tot (refOut A k l o i 1 x) (f78 mL (Run Tryd.prog rxA) (Dcall Tryd.prog rxA) (.ref k 0) (st A k (rdC l (i : Nat) (o : Nat) 0 0)))
  atom : ∀ A k o i x, k < A.length → i ≤ l.length → o ≤ 50 → pAtom l n o i = some x → Tot (refOut A k l o i 1 x) (f98 mL (Run Tryd.prog rxA) (Dcall Tryd.prog rxA) (.ref k 0) (st A k (rdC l (i : Nat) (o : Nat) 0 0)))
theorem sp3_rx (r : Rx) : sliceParts 3 true 0 [(0, encRx r)] = some [encRx r] := sparts1 _ _ _ _ (rx_cell r) rfl
include hl
theorem refSeq_exit (A : St) (k : Nat) (hk : k < A.length) (i o a : Nat) (c : Int) (i0 o0 c0 a0 : Int) (acc : List Rx) (b : Option Nat) (r0 r1 r2 : D) (hb : AccOk b 3 (acc.map encRx)) (hs : Rx.sizes acc ≤ 90000000) (hi : i ≤ 2000000)
    (hwi : (wordAt l i).length ≤ 100000000) (hc : c = 0 → starts (wordAt l i) = false) :
    iterK (f55_s0 mL (Run Tryd.prog rxA) (Dcall Tryd.prog rxA) (st A k (rdC l i0 o0 c0 a0))) (Env.mk (sp [(0, .ref k 0), (1, .ref A.length 0), (0, accD b (A.length + 1) 3 (acc.map encRx))] 19) []) (st (accA b (A ++ [.cells [r0, r1, r2]]) (acc.map encRx)) k (rdC l i o c a)) =
      some (.ret (encRx (joinR 4 acc)), st A k (rdC l i o c a)) := by
  have hst := s79 (accA b (A ++ [.cells [r0, r1, r2]]) (acc.map encRx)) k l i o c a (lenA (lenL hk)) (by omega) (by omega) hwi
  have hls := Rx.len_sizes acc
  have hfl := flat_len 4 acc
  have hj := fun A => s19 A 4 acc (by omega) (by omega)
  have hcn := acc_canon (c := A.length + 1) hb (plainRxs acc)
  have hkp := fun L b ds => stA_Kept (A := A) (k := k) (cs := rdC l i0 o0 c0 a0) (cs' := rdC l i o c a) (L := L) (b := b) (ds := ds) (rdC_shut _ _ _ _ _ _)
  refine Tot.eq (Tot.iter ?_)
  conv => arg 2; arg 1; unfold f55_s0
  by_cases hc0 : c = 0
  · have hne := hc hc0
    subst hc0
    rw [hne] at hst
    (repeat' first | (with_reducible first | apply Tot.of (qaa rfl) | apply Tot.of (qau rfl) | apply Tot.of (qa2 rfl) | apply Tot.of (qa4 rfl) | apply Tot.of (qak rfl) | apply Tot.of (qa0 rfl) | apply Tot.of (qav rfl) | apply Tot.of (st_inr rfl) | apply Tot.of (qat rfl) | apply Tot.gbl (b := true) | apply Tot.bql (b := true) | apply Tot.iff | apply Tot.iftt) | ((conv => arg 2; arg 1; simp (disch := first | omega | assumption) only [qbg, qac, Option.map_some, Option.bind_some, qad, qal, qah, qae, Nat.zero_add, ofA3, packD, qa5, qa8, qba, qaw, qaj, qai, qap, qab, qaf, qag, stAL_load, acc_ld0, acc_sto0, st_ldo, st_sto, stA_take, rdl3, r79, hst, hcn, r19, hj, rx_lay, rx_fold, hkp]); (with_reducible first | apply Tot.of (qaa rfl) | apply Tot.bql (b := false) | (apply Tot.eql_t; omega))))
    ((try conv => arg 2; simp (disch := first | omega | assumption) only [rx_shut, qa9]); refine Tot.ret ?_)
    rfl
  · (repeat' first | (with_reducible first | apply Tot.of (qaa rfl) | apply Tot.of (qau rfl) | apply Tot.of (qa2 rfl) | apply Tot.of (qa4 rfl) | apply Tot.of (qak rfl) | apply Tot.of (qa0 rfl) | apply Tot.of (qav rfl) | apply Tot.of (st_inr rfl) | apply Tot.of (qat rfl) | apply Tot.gbl (b := false) | apply Tot.bql (b := false) | apply Tot.iff | apply Tot.ifft) | ((conv => arg 2; arg 1; simp (disch := first | omega | assumption) only [qa7, qac, Option.map_some, Option.bind_some, qad, qal, qah, qae, Nat.zero_add, ofA3, packD, qa5, qa8, qba, qaw, qaj, qai, qab, qaf, qag, stAL_load, acc_ld0, acc_sto0, st_ldo, st_sto, stA_take, rdl3, hcn, r19, hj, rx_lay, rx_fold, hkp]); (with_reducible first | apply Tot.of (qaa rfl) | apply Tot.bql (b := false) | (apply Tot.eql_f; omega))))
    ((try conv => arg 2; simp (disch := first | omega | assumption) only [rx_shut, qa9]); refine Tot.ret ?_)
    rfl
include hw
theorem refAlts_step {n : Nat} (ih : RefSpec l n) (A : St) (k o i i0 : Nat) (acc : List Rx) (b : Option Nat) (x : Except (Nat × Int) (Rx × Nat)) (r0 r1 r2 y : D) (hk : k < A.length) (h0 : i0 < i) (hi : i ≤ l.length) (hne : acc ≠ []) (hs : Rx.sizes acc + acc.length ≤ 2 * (i - i0)) (hn : Rx.Nms acc) (hb : AccOk b 3 (acc.map encRx)) (ho : o ≤ 50) (h : pAlts l (n + 1) o i acc = some x) :
    Tot (refOut A k l o i0 3 x) (iterK (f33_s0 mL (Run Tryd.prog rxA) (Dcall Tryd.prog rxA) (st A k (rdC l (i0 : Nat) (o : Nat) 0 0))) (Env.mk (sp [(0, .ref k 0), (1, .ref A.length 0), (0, accD b (A.length + 1) 3 (acc.map encRx)), (21, y)] 5) []) (st (accA b (A ++ [.cells [r0, r1, r2]]) (acc.map encRx)) k (rdC l (i : Nat) (o : Nat) 0 0))) := by
  have hls := Rx.len_sizes acc
  simp only [pAlts] at h
  by_cases hp : wordAt l i = [124]
  · rw [if_pos hp] at h
    have hlt := wordAt_in (l := l) (i := i) (by rw [hp]; simp)
    have hwd := s56 (accA b (A ++ [.cells [r0, r1, r2]]) (acc.map encRx)) k l i o 0 0 (lenA (lenL hk)) (by omega) (by omega)
    rw [hp] at hwd
    refine Tot.iter ?_
    conv => arg 2; arg 1; unfold f33_s0
    (repeat' first | (with_reducible first | apply Tot.of (qaa rfl) | apply Tot.of (qau rfl) | apply Tot.of (qa4 rfl) | apply Tot.of (qak rfl) | apply Tot.of (qa0 rfl) | apply Tot.of (qav rfl) | apply Tot.gbl (b := true) | apply Tot.bql (b := true) | apply Tot.ift | apply Tot.iftt | (apply Tot.seql_t; first | assumption | with_reducible rfl)) | ((conv => arg 2; arg 1; simp (disch := first | omega | assumption) only [qbg, binO_add, qbf, qah, qae, Nat.zero_add, qa5, qaw, qaj, qap, stAL_load, stAL_store, rdl1, rdl3, rds1, r56, hwd]); (with_reducible first | apply Tot.of (qaa rfl) | apply Tot.bql (b := true) | (apply Tot.eql_t; omega))))
    have hap := fun cs r => st_app1_1 (A := A) (k := k) (w := 48) (n := 3) (s0 := .cells [r0, r1, r2]) (cs := cs) (d := encRx r) hb (by simp; omega) (by omega) hk
    have hml : ∀ r, acc.map encRx ++ [encRx r] = (acc ++ [r]).map encRx := fun r => by simp
    simp only [hml] at hap
    conv => arg 2; arg 1; simp (disch := first | omega | assumption) only [qa5, qap, r55]
    rcases PR.bind_some h with ⟨⟨a, c⟩, h1, rfl⟩ | ⟨r, j, h1, h2⟩
    · have hq := ih.seq (accA b (A ++ [.cells [r0, r1, r2]]) (acc.map encRx)) k o (i + 1) _ (lenA (lenL hk)) (by omega) ho h1
      refine Tot.bn hq fun z hz => ?_
      obtain ⟨e, i', rfl, he, hi'⟩ := hz
      obtain ⟨hf1, hf2, hf3⟩ : i + 1 ≤ a ∧ a ≤ l.length ∧ (c = 90 ∨ c = 91) := (facts hw n).seq o (i + 1) _ (by omega) h1
      have hx := refAlt_exit hl A k hk i' o a c i0 o 0 0 (acc ++ [e]) none r0 r1 r2 (.ref k 0) (.own _ _) (by simp only [Rx.sizes_append, Rx.sizes]; omega) (by omega) (by omega)
      (repeat' first | (with_reducible first | apply Tot.of (qaa rfl) | apply Tot.of (qau rfl) | apply Tot.of (qa2 rfl) | apply Tot.of (qa4 rfl) | apply Tot.of (qa0 rfl) | apply Tot.of (qav rfl) | apply Tot.of (st_inl rfl)) | ((conv => arg 2; arg 1; simp (disch := first | omega | assumption) only [qa5, qa8, qba, sp3_rx, hap]); (with_reducible first | apply Tot.of (qaa rfl))))
      conv => arg 2; simp (disch := first | omega | assumption) only [qa5, qa8, qba]
      refine ⟨_, hx, joinR 5 (acc ++ [e]), i', rfl, ?_, hi'⟩
      have := joinR_size 5 (acc ++ [e])
      simp only [Rx.sizes_append, Rx.sizes] at this
      omega
    · have hq := ih.seq (accA b (A ++ [.cells [r0, r1, r2]]) (acc.map encRx)) k o (i + 1) _ (lenA (lenL hk)) (by omega) ho h1
      refine Tot.bn hq fun z hz => ?_
      have g : Good l.length (i + 1) r j := (facts hw n).seq o (i + 1) _ (by omega) h1
      have g1 := g.lt; have g2 := g.size; have g3 := g.le
      cases (show z = _ from hz)
      have hx := ih.alts A k o j i0 (acc ++ [r]) none x r0 r1 r2 (.ref k 0) hk (by omega) g.le (by simp) (by simp only [Rx.sizes_append, Rx.sizes, List.length_append, List.length_cons, List.length_nil]; omega) ((Rx.Nms_append _ _).2 ⟨hn, g.nm, trivial⟩) (.own _ _) ho h2
      (repeat' first | (with_reducible first | apply Tot.of (qaa rfl) | apply Tot.of (qau rfl) | apply Tot.of (qa2 rfl) | apply Tot.of (qa4 rfl) | apply Tot.of (qa0 rfl) | apply Tot.of (qav rfl) | apply Tot.of (st_inl rfl)) | ((conv => arg 2; arg 1; simp (disch := first | omega | assumption) only [qa5, qa8, qba, sp3_rx, hap]); (with_reducible first | apply Tot.of (qaa rfl))))
      conv => arg 2; simp (disch := first | omega | assumption) only [qa5, qa8, qba]
      exact hx
  · rw [if_neg hp] at h
    cases h
    rw [← joinR_5 hne hn]
    exact ⟨_, refAlt_exit hl A k hk i o 0 0 i0 o 0 0 acc b r0 r1 r2 y hb (by omega) (by omega) (fun _ => hp), rfl⟩
theorem refAlt_step {n : Nat} (ih : RefSpec l n) (A : St) (k o i : Nat) (x : Except (Nat × Int) (Rx × Nat)) (hk : k < A.length) (hi : i ≤ l.length) (ho : o ≤ 50) (h : pAlt l (n + 1) o i = some x) :
    Tot (refOut A k l o i 3 x) (f33 mL (Run Tryd.prog rxA) (Dcall Tryd.prog rxA) (.ref k 0) (st A k (rdC l (i : Nat) (o : Nat) 0 0))) := by
  simp only [pAlt] at h
  unfold f33
  (repeat' first | ((conv => arg 2; arg 1; simp (disch := first | omega | assumption) only [qa1, qaj, qag, st_appr]); (with_reducible first | apply Tot.of (qaa rfl))))
  conv => arg 2; arg 1; simp (disch := first | omega | assumption) only [qap, r55]
  rcases PR.bind_some h with ⟨⟨a, c⟩, h1, rfl⟩ | ⟨r, j, h1, h2⟩
  · have hq := ih.seq (A ++ [.cells [.int .i64 0, .str [], .sl .full 0 []]]) k o i _ (lenL hk) (by omega) ho h1
    refine Tot.bn hq fun z hz => ?_
    obtain ⟨e, i', rfl, he, hi'⟩ := hz
    obtain ⟨hf1, hf2, hf3⟩ : i ≤ a ∧ a ≤ l.length ∧ (c = 90 ∨ c = 91) := (facts hw n).seq o i _ (by omega) h1
    have hx := refAlt_exit hl A k hk i' o a c i o 0 0 [e] (some 3) (.int .i64 0) (.str []) (.sl .full 0 []) (.tup []) (.full _ _) (by simp only [Rx.sizes]; omega) (by omega) (by omega)
    (repeat' first | (with_reducible first | apply Tot.of (qa2 rfl) | apply Tot.of (qa4 rfl) | apply Tot.of (qav rfl) | apply Tot.of (st_it rfl)) | ((conv => arg 2; arg 1; simp (disch := first | omega | assumption) only [sp3_rx]); (with_reducible first | apply Tot.of (qaa rfl))))
    conv => arg 2; simp (disch := first | omega | assumption) only []
    refine ⟨_, hx, joinR 5 [e], i', rfl, ?_, hi'⟩
    have : joinR 5 [e] = e := rfl
    rw [this]
    omega
  · have hq := ih.seq (A ++ [.cells [.int .i64 0, .str [], .sl .full 0 []]]) k o i _ (lenL hk) (by omega) ho h1
    refine Tot.bn hq fun z hz => ?_
    have g : Good l.length i r j := (facts hw n).seq o i _ (by omega) h1
    have g1 := g.lt; have g2 := g.size; have g3 := g.le
    cases (show z = _ from hz)
    have hx := ih.alts A k o j i [r] (some 3) x (.int .i64 0) (.str []) (.sl .full 0 []) (.tup []) hk g.lt g.le (by simp) (by simp only [Rx.sizes, List.length_cons, List.length_nil]; omega) ⟨g.nm, trivial⟩ (.full _ _) ho h2
    (repeat' first | (with_reducible first | apply Tot.of (qa2 rfl) | apply Tot.of (qa4 rfl) | apply Tot.of (qav rfl) | apply Tot.of (st_it rfl)) | ((conv => arg 2; arg 1; simp (disch := first | omega | assumption) only [sp3_rx]); (with_reducible first | apply Tot.of (qaa rfl))))
    conv => arg 2; simp (disch := first | omega | assumption) only []
    exact hx
end Go.Vm.Rx
