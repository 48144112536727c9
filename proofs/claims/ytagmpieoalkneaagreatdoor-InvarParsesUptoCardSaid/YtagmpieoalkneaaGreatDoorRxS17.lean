/- RxS14, RxS15, RxS16, RxS17 in one text. -/
import Derived.Test.YtagmpieoalkneaaGreatDoorRxS13
import Derived.Test.YtagmpieoalkneaaGreatDoorRxI3
set_option linter.all false
/- Several expressions as one: the reference's Joined. -/
namespace Go.Vm.Rx
open Go Go.Proofs P
set_option maxRecDepth 10000
set_option maxHeartbeats 2000000
def joinR (op : Int) (l : List Rx) : Rx :=
  match l with
  | [r] => r
  | l => match flat op l with
    | [r] => if op = 4 then r else .mk op [] [r]
    | ks => .mk op [] ks
def joinF (op : Int) (ks : List Rx) : Rx :=
  match ks with
    | [r] => if op = 4 then r else .mk op [] [r]
    | ks => .mk op [] ks
theorem joinF_eq {op : Int} {ks : List Rx} (h : ¬ (op = 4 ∧ (ks.length : Int) = 1)) : joinF op ks = .mk op [] ks := by
  unfold joinF
  split
  · rename_i r
    rw [if_neg (fun e => h ⟨e, rfl⟩)]
  · rfl
theorem joinF_one {op : Int} {ks : List Rx} (h1 : op = 4) (h2 : (ks.length : Int) = 1) : ∃ r, ks = [r] ∧ joinF op ks = r := by
  cases ks with
  | nil => simp at h2
  | cons r ks =>
    cases ks with
    | nil => exact ⟨r, rfl, by simp [joinF, h1]⟩
    | cons _ _ => simp at h2; omega
theorem encRx_mk (op : Int) (nm : Str) (ks : List Rx) : encRx (.mk op nm ks) = .agg [.int .i64 op, .str nm, encL 3 (ks.map encRx)] := encRx_eq _
theorem s152_loop (A : St) (op : Int) (l : List Rx) (hl : l.length ≤ 100000000) (hfl : (flat op l).length ≤ 100000000) : ∀ (t : List Rx) (i : Nat) (acc : List Rx) (b : Option Nat) (y r0 r1 r2 : D), l.drop i = t → acc ++ flat op t = flat op l → AccOk b 3 (acc.map encRx) →
    LP Tryz.prog rxA 152 [0, 1, 0, 1, 1, 1] [A] (Env.mk (sp [(0, .int .i64 op), (0, encL 3 (l.map encRx)), (2, .ref A.length 0), (0, .ref (A.length + 1) 0), (0, .int .i64 (i : Nat)), (18, y)] 33) [])
      (accA b (A ++ [.cells [r0, r1, r2], .cells [.int .i64 op, .str [], accD b (A.length + 2) 3 (acc.map encRx)]]) (acc.map encRx)) = some (.ret (encRx (joinF op (flat op l))), A) := by
  intro t
  induction t with
  | nil =>
    intro i acc b y r0 r1 r2 ht hacc hb
    have h1 := drop_len ht
    simp only [flat, List.append_nil] at hacc
    rw [← hacc] at hfl ⊢
    have hS := fun m => acc_shut (c := A.length + 2) (m := m) hb (plainRxs acc)
    refine qa6 (qbj (q152_0 ..) ?_)
    unfold n152_0; dsimp only
    have hln : ((acc.map encRx).length : Int) = (acc.length : Int) := by simp
    have hlx : ∀ x b' c d, layCells true 3 0 [x, c, d] (D.agg [.int .i64 op, .str [], accD b' (A.length + 2) 3 (acc.map encRx)]) = some [.int .i64 op, .str [], accD b' (A.length + 2) 3 (acc.map encRx)] := fun x b' c d => by
      cases b' <;> simp [layCells, D.cellsT, D.agg?, allCells, D.cell?, splice, accD]
    by_cases hc : op = 4 ∧ (acc.length : Int) = 1
    · obtain ⟨r, rfl, hj⟩ := joinF_one hc.1 hc.2
      have hx := idx_acc1 (c := A.length + 2) (g := true) (k := .i64) (d := encRx r) hb
      have hl1 : ([r] : List Rx).length = 1 := rfl
      obtain ⟨h4, _⟩ := hc
      simp only [List.map_cons, List.map_nil] at hlx hS
      (repeat' first | (with_reducible first | apply qa2 | apply qbd | apply qaj | apply qav (b := true) | apply qaa (b := true) | apply qaa (b := false) | apply qar | apply qaq | apply qb4 | (apply qbz; omega)) | ((conv => arg 2; arg 1; simp (disch := first | omega | assumption) only [qcb, qbb, Option.map_some, qao, qaf, qbs, qa8, qci, List.map_nil, Nat.zero_add, ofA3, List.length_cons, List.length_nil, qa4, qbc, qa9, qaz, qbt, len_acc, List.length_map, acc_ld0, acc_ld1, acc_sto0, hx, rx_cell, rx_lay, rx_fold, List.map_cons]); (with_reducible first | apply qad | apply qaa (b := true) | (apply qbo; omega) | (apply qbz; omega))))
      ((try conv => arg 2; simp (disch := first | omega | assumption) only [qac, qae, qab, qag, accL_Kept, accL_take, rx_shut, qch]); refine qal ?_)
      rw [hj]
    · rw [joinF_eq hc]
      (repeat' first | (with_reducible first | apply qad | apply qa2 | apply qbd | apply qaj | apply qav (b := true) | apply qav (b := false) | apply qaa (b := true) | apply qaa (b := false) | apply qaq | apply qb4 | apply qce | (apply qb8; omega)) | ((conv => arg 2; arg 1; simp (disch := first | omega | assumption) only [qcb, qbb, qa7, Option.map_some, qao, qaf, qa8, qci, Nat.zero_add, ofA3, qa4, qbc, qa9, qaz, qbt, len_acc, List.length_map, acc_ld0, acc_ld1, acc_sto0, hlx]); (with_reducible first | apply qad | apply qaa (b := false) | (apply qbo; omega) | (apply tot_eql; all_goals intro hsp))))
      all_goals (((try conv => arg 2; simp (disch := first | omega | assumption) only [qac, qam, qbw, qb2, qay, qax, qae, qah, qas, qbp, qau, qat, qab, qag, accL_Kept, accL_take, hS]); refine qal ?_); rw [encRx_mk])
  | cons x t ih =>
    intro i acc b y r0 r1 r2 ht hacc hb
    have h1 := drop_lt ht
    have hx := idx_drop (f := encRx) ht 3 true .i64
    have hlen := congrArg List.length hacc
    simp only [List.length_append] at hlen
    refine qa6 (qbj (q152_0 ..) ?_)
    unfold n152_0; dsimp only
    by_cases hop : x.op = op
    · have hf : flat op (x :: t) = x.ks ++ flat op t := by simp [flat, hop]
      rw [hf, ← List.append_assoc] at hacc
      have hap := fun s0 s1 => appL_2 (A := A) (w := 48) (s0 := s0) (s1 := s1) (new := x.ks.map encRx) hb (by rw [hf] at hlen; simp at hlen ⊢; omega) (by omega)
      simp only [← List.map_append] at hap
      (repeat' first | (with_reducible first | (apply qbk; intro hkk hke) | (apply qbu; · assumption) | apply qa2 | apply qaa (b := true) | apply qar) | ((conv => arg 2; arg 1; simp (disch := first | omega | assumption) only [Option.map_some, qa1, qa0, qaf, fieldAddr_peek, qbs, qa8, qci, List.drop_zero, List.drop_succ_cons, Nat.zero_add, lay_s, qa4, qbc, qa9, qaz, qbt, lay_acc, List.length_map, eg_0, eg_S, acc_ld1, acc_sto1, hx, rx_cell, hap]); (with_reducible first | apply qad | (apply qa3; omega) | (apply qbz; omega))))
      (refine qbl ?_; (conv => lhs; simp only [qa4, qbc, qa9, eg_0, eg_S]); have := ih (i + 1) (acc ++ x.ks) (accNext b 3 (x.ks.map encRx)) (.int .i64 x.op) r0 r1 r2 (qb7 ht) hacc (by rw [List.map_append]; exact hb.next _); exact this)
    · have hf : flat op (x :: t) = [x] ++ flat op t := by simp [flat, hop]
      rw [hf, ← List.append_assoc] at hacc
      have hap := fun s0 s1 => app1_2 (A := A) (w := 48) (s0 := s0) (s1 := s1) (d := encRx x) hb (by rw [hf] at hlen; simp at hlen ⊢; omega) (by omega)
      have hml : acc.map encRx ++ [encRx x] = (acc ++ [x]).map encRx := by simp
      simp only [hml] at hap
      have hsp3 : sliceParts 3 true 0 [(0, encRx x)] = some [encRx x] := sparts1 _ _ _ _ (rx_cell x) rfl
      (repeat' first | (with_reducible first | (apply qbk; intro hkk hke) | (apply qbu; · assumption) | apply qa2 | apply qaa (b := true) | apply qaa (b := false) | apply qar | apply qaq) | ((conv => arg 2; arg 1; simp (disch := first | omega | assumption) only [Option.map_some, qa1, qa0, qaf, fieldAddr_peek, qbs, qa8, qci, List.drop_zero, Nat.zero_add, lay_s, ofA3, qa4, qbc, qa9, qaz, qbt, lay_acc, List.length_map, eg_0, eg_S, acc_ld1, acc_sto1, hx, rx_cell, rx_fold, hap, hsp3]); (with_reducible first | apply qad | (apply qa3; omega) | (apply qb8; omega))))
      (refine qbl ?_; (conv => lhs; simp only [qa4, qbc, qa9, eg_0, eg_S]); have := ih (i + 1) (acc ++ [x]) none (.int .i64 x.op) r0 r1 r2 (qb7 ht) hacc (.own _ _); exact this)
theorem s152 (A : St) (op : Int) (l : List Rx) (hl : l.length ≤ 100000000) (hfl : (flat op l).length ≤ 100000000) : f152 (.int .i64 op) (encL 3 (l.map encRx)) A = some (.ret (encRx (joinR op l)), A) := by
  unfold f152 n152; dsimp only
  refine qa6 ?_
  by_cases h1 : (l.length : Int) = 1
  · obtain ⟨r, rfl⟩ : ∃ r, l = [r] := by
      cases l with
      | nil => simp at h1
      | cons r l => cases l with
        | nil => exact ⟨r, rfl⟩
        | cons _ _ => simp at h1; omega
    have hl1 : ([r] : List Rx).length = 1 := rfl
    (repeat' first | (with_reducible first | apply qad | apply tp_bnbn | apply qa2 | apply qaj | apply qaa (b := true) | apply qar | (apply qbz; omega)) | ((conv => arg 2; arg 1; simp (disch := first | omega | assumption) only [qbs, List.map_nil, Nat.zero_add, qbg, ofA3, List.length_cons, List.length_nil, qaz, qbt, qb1, ldc0, qb6, qcg, idx_enc1, rx_cell, rx_lay, rx_fold, List.map_cons]); (with_reducible apply qad)))
    ((try conv => arg 2; simp (disch := first | omega | assumption) only [qac, qa5, qae, qab, qag, List.take_left', rx_shut, qch]); refine qal ?_)
    rfl
  · have hj : joinR op l = joinF op (flat op l) := by
      unfold joinR joinF
      cases l with
      | nil => rfl
      | cons r l => cases l with
        | nil => simp at h1
        | cons _ _ => rfl
    have := s152_loop A op l hl hfl l 0 [] (some 0) (.tup []) (.int .i64 0) (.str []) (.sl .full 0 []) rfl (by simp) (.nil 3)
    rw [hj]
    (repeat' first | (with_reducible first | apply qad | apply tp_bnbn | apply qa2 | apply qaa (b := false) | apply qaq | (apply qb8; omega)) | ((conv => arg 2; arg 1; simp (disch := first | omega | assumption) only [Nat.zero_add, qbg, lay_int, List.length_append, List.length_cons, List.length_nil, qaz, qbt, app_one, qb9, qb0, qca, qcg, stocS, List.length_map, lay3]); (with_reducible apply qad)))
    (refine qbl ?_; (conv => lhs; simp only []); exact this)
end Go.Vm.Rx

/- The reference's reader of words: rows of alternatives and parts. -/
namespace Go.Vm.Rx
open Go Go.Proofs P
set_option maxRecDepth 10000
set_option maxHeartbeats 2000000
section
variable (l : List Word) (i o b a x : Int)
theorem rdl0 : ofCells false (rdC l i o b a) 0 1 = some (encL 3 (l.map encW)) := rfl
theorem rdl1 : ofCells false (rdC l i o b a) 1 1 = some (.int .i64 i) := rfl
theorem rdl2 : ofCells false (rdC l i o b a) 2 1 = some (.int .i64 o) := rfl
theorem rdl3 : ofCells false (rdC l i o b a) 3 1 = some (.int .i64 b) := rfl
theorem rdl4 : ofCells false (rdC l i o b a) 4 1 = some (.int .i64 a) := rfl
theorem rds1 : layCells false 1 1 (rdC l i o b a) (.int .i64 x) = some (rdC l x o b a) := rfl
theorem rds2 : layCells false 1 2 (rdC l i o b a) (.int .i64 x) = some (rdC l i x b a) := rfl
end
def refOut (A : St) (k : Nat) (l : List Word) (o i G : Nat) (x : Except (Nat × Int) (Rx × Nat)) (r : Res × St) : Prop :=
  match x with
  | .ok (e, j) => r = (.ret (encRx e), st A k (rdC l j o 0 0))
  | .error (a, c) => ∃ (e : Rx) (i' : Nat), r = (.ret (encRx e), st A k (rdC l i' o c a)) ∧ e.size ≤ 4 * (a - i) + G ∧ i' + o ≤ l.length + 52
theorem joinR_size (op : Int) (l : List Rx) : (joinR op l).size ≤ Rx.sizes l + 1 := by
  unfold joinR
  split
  · simp only [Rx.sizes]; omega
  · have := flat_sizes op l
    split
    · rename_i r hr
      rw [hr] at this
      simp only [Rx.sizes] at this
      split
      · omega
      · simp only [Rx.size, Rx.sizes]; omega
    · simp only [Rx.size]; omega
theorem join_two {op : Int} {l : List Rx} (hone : ∀ r, l ≠ [r]) : join op l = match flat op l with | [r] => r | ks => .mk op [] ks := by
  unfold join
  split
  · rename_i r; exact absurd rfl (hone r)
  · rfl
theorem joinR_two {op : Int} {l : List Rx} (hone : ∀ r, l ≠ [r]) : joinR op l = joinF op (flat op l) := by
  unfold joinR joinF
  split
  · rename_i r; exact absurd rfl (hone r)
  · rfl
theorem one_or {l : List Rx} : (∃ r, l = [r]) ∨ ∀ r, l ≠ [r] := by
  by_cases h : ∃ r, l = [r]
  · exact .inl h
  · exact .inr fun r e => h ⟨r, e⟩
theorem joinR_4 (l : List Rx) : joinR 4 l = join 4 l := by
  rcases one_or (l := l) with ⟨r, rfl⟩ | h
  · rfl
  · rw [join_two h, joinR_two h]
    unfold joinF
    cases flat 4 l with
    | nil => rfl
    | cons r t => cases t <;> rfl
theorem joinR_5 {l : List Rx} (hne : l ≠ []) (h : Rx.Nms l) : joinR 5 l = join 5 l := by
  rcases one_or (l := l) with ⟨r, rfl⟩ | hone
  · rfl
  · have h1 := flat_long l h
    have h2 := two_long hne hone
    rw [join_two hone, joinR_two hone]
    unfold joinF
    cases hf : flat 5 l with
    | nil => rfl
    | cons r t => cases t with
      | nil => rw [hf] at h1; simp only [List.length_cons, List.length_nil] at h1; omega
      | cons _ _ => rfl
theorem flat_len (op : Int) (l : List Rx) : (flat op l).length ≤ Rx.sizes l := Nat.le_trans (Rx.len_sizes _) (flat_sizes op l)
variable {l : List Word} (hl : l.length ≤ 1100000) (hw : ∀ w, w ∈ l → w.t.length ≤ 100000000)
include hl
theorem refAlt_exit (A : St) (k : Nat) (hk : k < A.length) (i o a : Nat) (c : Int) (i0 o0 c0 a0 : Int) (acc : List Rx) (b : Option Nat) (r0 r1 r2 y : D) (hb : AccOk b 3 (acc.map encRx)) (hs : Rx.sizes acc ≤ 90000000) (hi : i ≤ 2000000)
    (hc : c = 0 → wordAt l i ≠ [124]) :
    LP Tryz.prog rxA 117 [0, 0, 1, 1] [(st A k (rdC l i0 o0 c0 a0))] (Env.mk (sp [(0, .ref k 0), (1, .ref A.length 0), (0, accD b (A.length + 1) 3 (acc.map encRx)), (21, y)] 5) []) (st (accA b (A ++ [.cells [r0, r1, r2]]) (acc.map encRx)) k (rdC l i o c a)) =
      some (.ret (encRx (joinR 5 acc)), st A k (rdC l i o c a)) := by
  have hwd := s151 (accA b (A ++ [.cells [r0, r1, r2]]) (acc.map encRx)) k l i o c a (lenA (lenL hk)) (by omega) (by omega)
  have hls := Rx.len_sizes acc
  have hfl := flat_len 5 acc
  have hj := fun A => s152 A 5 acc (by omega) (by omega)
  have hcn := acc_canon (c := A.length + 1) hb (plainRxs acc)
  have hkp := fun L b ds => stA_Kept (A := A) (k := k) (cs := rdC l i0 o0 c0 a0) (cs' := rdC l i o c a) (L := L) (b := b) (ds := ds) (rdC_shut _ _ _ _ _ _)
  refine qa6 (qbj (q117_0 ..) ?_)
  unfold n117_0; dsimp only
  by_cases hc0 : c = 0
  · have hne := hc hc0
    subst hc0
    (repeat' first | (with_reducible first | apply qad | apply qa2 | apply qbd | apply qaw | apply qaj | apply qav (b := true) | apply qaa (b := true) | apply qaq | apply qb4 | (apply qbz; omega) | (apply qbm; first | assumption | decide | exact List.cons_ne_nil _ _)) | ((conv => arg 2; arg 1; simp (disch := first | omega | assumption) only [qcb, qbb, Option.map_some, qao, qai, qaf, Nat.zero_add, ofA3, qa4, qbc, qa9, qaz, qah, qan, stAL_load, acc_ld0, acc_sto0, st_ldo, qcc, rdl3, r151, hwd, hcn, r152, hj, rx_lay, rx_fold]); (with_reducible first | apply qad | apply qaa (b := false))))
    ((try conv => arg 2; simp (disch := first | omega | assumption) only [qac, qae, qab, qag, qak, stA_take, hkp, rx_shut, qch]); refine qal ?_)
    rfl
  · (repeat' first | (with_reducible first | apply qad | apply qa2 | apply qbd | apply qaw | apply qaj | apply qav (b := false) | apply qaa (b := false) | apply qaq | apply qce | (apply qb8; omega)) | ((conv => arg 2; arg 1; simp (disch := first | omega | assumption) only [qcb, qa7, Option.map_some, qao, qai, qaf, Nat.zero_add, ofA3, qa4, qbc, qa9, qaz, qah, stAL_load, acc_ld0, acc_sto0, st_ldo, qcc, rdl3, hcn, r152, hj, rx_lay, rx_fold]); (with_reducible first | apply qad | apply qaa (b := false))))
    ((try conv => arg 2; simp (disch := first | omega | assumption) only [qac, qae, qab, qag, qak, stA_take, hkp, rx_shut, qch]); refine qal ?_)
    rfl
end Go.Vm.Rx

/- The reference's reader of words: parts in turn; the steps of the induction. -/
namespace Go.Vm.Rx
open Go Go.Proofs P
set_option maxRecDepth 10000
set_option maxHeartbeats 400000
variable {l : List Word} (hl : l.length ≤ 1100000) (hw : ∀ w, w ∈ l → w.t.length ≤ 100000000)
structure RefSpec (l : List Word) (n : Nat) : Prop where
  alt : ∀ A k o i x, k < A.length → i ≤ l.length → o ≤ 50 → pAlt l n o i = some x → Tot (refOut A k l o i 3 x) (f117 (.ref k 0) (st A k (rdC l (i : Nat) (o : Nat) 0 0)))
  alts : ∀ A k o i i0 acc b x r0 r1 r2 y, k < A.length → i0 < i → i ≤ l.length → acc ≠ [] → Rx.sizes acc + acc.length ≤ 2 * (i - i0) → Rx.Nms acc → AccOk b 3 (acc.map encRx) → o ≤ 50 → pAlts l n o i acc = some x →
    Tot (refOut A k l o i0 3 x) (LP Tryz.prog rxA 117 [0, 0, 1, 1] [(st A k (rdC l (i0 : Nat) (o : Nat) 0 0))] (Env.mk (sp [(0, .ref k 0), (1, .ref A.length 0), (0, accD b (A.length + 1) 3 (acc.map encRx)), (21, y)] 5) []) (st (accA b (A ++ [.cells [r0, r1, r2]]) (acc.map encRx)) k (rdC l (i : Nat) (o : Nat) 0 0)))
  seq : ∀ A k o i x, k < A.length → i ≤ l.length → o ≤ 50 → pSeq l n o i = some x → Tot (refOut A k l o i 2 x) (f150 (.ref k 0) (st A k (rdC l (i : Nat) (o : Nat) 0 0)))
  seqs : ∀ A k o i i0 acc b x r0 r1 r2, k < A.length → i0 < i → i ≤ l.length → acc ≠ [] → Rx.sizes acc + acc.length ≤ 2 * (i - i0) → Rx.Nms acc → AccOk b 3 (acc.map encRx) → o ≤ 50 → pSeqs l n o i acc = some x →
    Tot (refOut A k l o i0 2 x) (LP Tryz.prog rxA 150 [0, 0, 1, 1] [(st A k (rdC l (i0 : Nat) (o : Nat) 0 0))] (Env.mk (sp [(0, .ref k 0), (1, .ref A.length 0), (0, accD b (A.length + 1) 3 (acc.map encRx))] 19) []) (st (accA b (A ++ [.cells [r0, r1, r2]]) (acc.map encRx)) k (rdC l (i : Nat) (o : Nat) 0 0)))
  rep : ∀ A k o i x, k < A.length → i ≤ l.length → o ≤ 50 → pRep l n o i = some x → Tot (refOut A k l o i 1 x) (f173 (.ref k 0) (st A k (rdC l (i : Nat) (o : Nat) 0 0)))
  atom : ∀ A k o i x, k < A.length → i ≤ l.length → o ≤ 50 → pAtom l n o i = some x → Tot (refOut A k l o i 1 x) (f196 (.ref k 0) (st A k (rdC l (i : Nat) (o : Nat) 0 0)))
theorem sp3_rx (r : Rx) : sliceParts 3 true 0 [(0, encRx r)] = some [encRx r] := sparts1 _ _ _ _ (rx_cell r) rfl
include hl
theorem refSeq_exit (A : St) (k : Nat) (hk : k < A.length) (i o a : Nat) (c : Int) (i0 o0 c0 a0 : Int) (acc : List Rx) (b : Option Nat) (r0 r1 r2 : D) (hb : AccOk b 3 (acc.map encRx)) (hs : Rx.sizes acc ≤ 90000000) (hi : i ≤ 2000000)
    (hwi : (wordAt l i).length ≤ 100000000) (hc : c = 0 → starts (wordAt l i) = false) :
    LP Tryz.prog rxA 150 [0, 0, 1, 1] [(st A k (rdC l i0 o0 c0 a0))] (Env.mk (sp [(0, .ref k 0), (1, .ref A.length 0), (0, accD b (A.length + 1) 3 (acc.map encRx))] 19) []) (st (accA b (A ++ [.cells [r0, r1, r2]]) (acc.map encRx)) k (rdC l i o c a)) =
      some (.ret (encRx (joinR 4 acc)), st A k (rdC l i o c a)) := by
  have hst := s174 (accA b (A ++ [.cells [r0, r1, r2]]) (acc.map encRx)) k l i o c a (lenA (lenL hk)) (by omega) (by omega) hwi
  have hls := Rx.len_sizes acc
  have hfl := flat_len 4 acc
  have hj := fun A => s152 A 4 acc (by omega) (by omega)
  have hcn := acc_canon (c := A.length + 1) hb (plainRxs acc)
  have hkp := fun L b ds => stA_Kept (A := A) (k := k) (cs := rdC l i0 o0 c0 a0) (cs' := rdC l i o c a) (L := L) (b := b) (ds := ds) (rdC_shut _ _ _ _ _ _)
  refine qa6 (qbj (q150_0 ..) ?_)
  unfold n150_0; dsimp only
  by_cases hc0 : c = 0
  · have hne := hc hc0
    subst hc0
    rw [hne] at hst
    (repeat' first | (with_reducible first | apply qad | apply qa2 | apply qbd | apply qaw | apply qaj | apply qav (b := true) | apply qaa (b := true) | apply qaq | apply qb4 | (apply qbz; omega)) | ((conv => arg 2; arg 1; simp (disch := first | omega | assumption) only [qcb, qbb, Option.map_some, qao, qai, qaf, Nat.zero_add, ofA3, qa4, qbc, qa9, qaz, qah, qan, stAL_load, acc_ld0, acc_sto0, st_ldo, qcc, rdl3, r174, hst, hcn, r152, hj, rx_lay, rx_fold]); (with_reducible first | apply qad | apply qaa (b := false))))
    ((try conv => arg 2; simp (disch := first | omega | assumption) only [qac, qae, qab, qag, qak, stA_take, hkp, rx_shut, qch]); refine qal ?_)
    rfl
  · (repeat' first | (with_reducible first | apply qad | apply qa2 | apply qbd | apply qaw | apply qaj | apply qav (b := false) | apply qaa (b := false) | apply qaq | apply qce | (apply qb8; omega)) | ((conv => arg 2; arg 1; simp (disch := first | omega | assumption) only [qcb, qa7, Option.map_some, qao, qai, qaf, Nat.zero_add, ofA3, qa4, qbc, qa9, qaz, qah, stAL_load, acc_ld0, acc_sto0, st_ldo, qcc, rdl3, hcn, r152, hj, rx_lay, rx_fold]); (with_reducible first | apply qad | apply qaa (b := false))))
    ((try conv => arg 2; simp (disch := first | omega | assumption) only [qac, qae, qab, qag, qak, stA_take, hkp, rx_shut, qch]); refine qal ?_)
    rfl
include hw
theorem refAlts_step {n : Nat} (ih : RefSpec l n) (A : St) (k o i i0 : Nat) (acc : List Rx) (b : Option Nat) (x : Except (Nat × Int) (Rx × Nat)) (r0 r1 r2 y : D) (hk : k < A.length) (h0 : i0 < i) (hi : i ≤ l.length) (hne : acc ≠ []) (hs : Rx.sizes acc + acc.length ≤ 2 * (i - i0)) (hn : Rx.Nms acc) (hb : AccOk b 3 (acc.map encRx)) (ho : o ≤ 50) (h : pAlts l (n + 1) o i acc = some x) :
    Tot (refOut A k l o i0 3 x) (LP Tryz.prog rxA 117 [0, 0, 1, 1] [(st A k (rdC l (i0 : Nat) (o : Nat) 0 0))] (Env.mk (sp [(0, .ref k 0), (1, .ref A.length 0), (0, accD b (A.length + 1) 3 (acc.map encRx)), (21, y)] 5) []) (st (accA b (A ++ [.cells [r0, r1, r2]]) (acc.map encRx)) k (rdC l (i : Nat) (o : Nat) 0 0))) := by
  have hls := Rx.len_sizes acc
  simp only [pAlts] at h
  by_cases hp : wordAt l i = [124]
  · rw [if_pos hp] at h
    have hlt := qb3 (l := l) (i := i) (by rw [hp]; simp)
    have hwd := s151 (accA b (A ++ [.cells [r0, r1, r2]]) (acc.map encRx)) k l i o 0 0 (lenA (lenL hk)) (by omega) (by omega)
    rw [hp] at hwd
    refine qbj (q117_0 ..) ?_
    unfold n117_0; dsimp only
    (repeat' first | (with_reducible first | apply qad | apply qa2 | apply qbd | apply qaw | apply qav (b := true) | apply qaa (b := true) | apply qar | apply qb4 | (apply qbz; omega) | (apply qcd; first | assumption | with_reducible rfl)) | ((conv => arg 2; arg 1; simp (disch := first | omega | assumption) only [qbb, qa1, qa0, qai, qaf, Nat.zero_add, qa4, qaz, qan, stAL_load, stAL_store, rdl1, rdl3, rds1, r151, hwd]); (with_reducible first | apply qad | apply qaa (b := true))))
    have hap := fun cs r => st_app1_1 (A := A) (k := k) (w := 48) (n := 3) (s0 := .cells [r0, r1, r2]) (cs := cs) (d := encRx r) hb (by simp; omega) (by omega) hk
    have hml : ∀ r, acc.map encRx ++ [encRx r] = (acc ++ [r]).map encRx := fun r => by simp
    simp only [hml] at hap
    conv => arg 2; arg 1; simp (disch := first | omega | assumption) only [qa4, qan, r150]
    rcases PR.bind_some h with ⟨⟨a, c⟩, h1, rfl⟩ | ⟨r, j, h1, h2⟩
    · have hq := ih.seq (accA b (A ++ [.cells [r0, r1, r2]]) (acc.map encRx)) k o (i + 1) _ (lenA (lenL hk)) (by omega) ho h1
      refine tot_bn hq fun z hz => ?_
      obtain ⟨e, i', rfl, he, hi'⟩ := hz
      obtain ⟨hf1, hf2, hf3⟩ : i + 1 ≤ a ∧ a ≤ l.length ∧ (c = 90 ∨ c = 91) := (facts hw n).seq o (i + 1) _ (by omega) h1
      have hx := refAlt_exit hl A k hk i' o a c i0 o 0 0 (acc ++ [e]) none r0 r1 r2 (.ref k 0) (.own _ _) (by simp only [Rx.sizes_append, Rx.sizes]; omega) (by omega) (by omega)
      (repeat' first | (with_reducible first | apply qa2 | apply qaw) | ((conv => arg 2; arg 1; simp (disch := first | omega | assumption) only [qa4, qbc, qa9, sp3_rx, hap]); (with_reducible apply qad)))
      conv => arg 2; simp only [qa4, qbc, qa9]
      refine ⟨_, hx, joinR 5 (acc ++ [e]), i', rfl, ?_, hi'⟩
      have := joinR_size 5 (acc ++ [e])
      simp only [Rx.sizes_append, Rx.sizes] at this
      omega
    · have hq := ih.seq (accA b (A ++ [.cells [r0, r1, r2]]) (acc.map encRx)) k o (i + 1) _ (lenA (lenL hk)) (by omega) ho h1
      refine tot_bn hq fun z hz => ?_
      have g : P.Good l.length (i + 1) r j := (facts hw n).seq o (i + 1) _ (by omega) h1
      have g1 := g.lt; have g2 := g.size; have g3 := g.le
      cases (show z = _ from hz)
      have hx := ih.alts A k o j i0 (acc ++ [r]) none x r0 r1 r2 (.ref k 0) hk (by omega) g.le (by simp) (by simp only [Rx.sizes_append, Rx.sizes, List.length_append, List.length_cons, List.length_nil]; omega) ((Rx.Nms_append _ _).2 ⟨hn, g.nm, trivial⟩) (.own _ _) ho h2
      (repeat' first | (with_reducible first | apply qa2 | apply qaw) | ((conv => arg 2; arg 1; simp (disch := first | omega | assumption) only [qa4, qbc, qa9, sp3_rx, hap]); (with_reducible apply qad)))
      conv => arg 2; simp only [qa4, qbc, qa9]
      exact hx
  · rw [if_neg hp] at h
    cases h
    rw [← joinR_5 hne hn]
    exact ⟨_, refAlt_exit hl A k hk i o 0 0 i0 o 0 0 acc b r0 r1 r2 y hb (by omega) (by omega) (fun _ => hp), rfl⟩
theorem refAlt_step {n : Nat} (ih : RefSpec l n) (A : St) (k o i : Nat) (x : Except (Nat × Int) (Rx × Nat)) (hk : k < A.length) (hi : i ≤ l.length) (ho : o ≤ 50) (h : pAlt l (n + 1) o i = some x) :
    Tot (refOut A k l o i 3 x) (f117 (.ref k 0) (st A k (rdC l (i : Nat) (o : Nat) 0 0))) := by
  simp only [pAlt] at h
  unfold f117 n117; dsimp only
  (repeat' first | ((conv => arg 2; arg 1; simp (disch := first | omega | assumption) only [qbg, qak, st_appr]); (with_reducible apply qad)))
  conv => arg 2; arg 1; simp (disch := first | omega | assumption) only [qan, r150]
  rcases PR.bind_some h with ⟨⟨a, c⟩, h1, rfl⟩ | ⟨r, j, h1, h2⟩
  · have hq := ih.seq (A ++ [.cells [.int .i64 0, .str [], .sl .full 0 []]]) k o i _ (lenL hk) (by omega) ho h1
    refine tot_bn hq fun z hz => ?_
    obtain ⟨e, i', rfl, he, hi'⟩ := hz
    obtain ⟨hf1, hf2, hf3⟩ : i ≤ a ∧ a ≤ l.length ∧ (c = 90 ∨ c = 91) := (facts hw n).seq o i _ (by omega) h1
    have hx := refAlt_exit hl A k hk i' o a c i o 0 0 [e] (some 3) (.int .i64 0) (.str []) (.sl .full 0 []) (.tup []) (.full _ _) (by simp only [Rx.sizes]; omega) (by omega) (by omega)
    (repeat' first | (with_reducible first | apply qa2 | apply qaw) | ((conv => arg 2; arg 1; simp (disch := first | omega | assumption) only [sp3_rx]); (with_reducible apply qad)))
    conv => arg 2; simp only []
    refine ⟨_, hx, joinR 5 [e], i', rfl, ?_, hi'⟩
    have : joinR 5 [e] = e := rfl
    rw [this]
    omega
  · have hq := ih.seq (A ++ [.cells [.int .i64 0, .str [], .sl .full 0 []]]) k o i _ (lenL hk) (by omega) ho h1
    refine tot_bn hq fun z hz => ?_
    have g : P.Good l.length i r j := (facts hw n).seq o i _ (by omega) h1
    have g1 := g.lt; have g2 := g.size; have g3 := g.le
    cases (show z = _ from hz)
    have hx := ih.alts A k o j i [r] (some 3) x (.int .i64 0) (.str []) (.sl .full 0 []) (.tup []) hk g.lt g.le (by simp) (by simp only [Rx.sizes, List.length_cons, List.length_nil]; omega) ⟨g.nm, trivial⟩ (.full _ _) ho h2
    (repeat' first | (with_reducible first | apply qa2 | apply qaw) | ((conv => arg 2; arg 1; simp (disch := first | omega | assumption) only [sp3_rx]); (with_reducible apply qad)))
    conv => arg 2; simp only []
    exact hx
end Go.Vm.Rx

/- The reference's reader of words: parts in turn, repetitions. -/
namespace Go.Vm.Rx
open Go Go.Proofs P
set_option maxRecDepth 10000
set_option maxHeartbeats 400000
variable {l : List Word} (hl : l.length ≤ 1100000) (hw : ∀ w, w ∈ l → w.t.length ≤ 100000000)
include hl hw
theorem refSeqs_step {n : Nat} (ih : RefSpec l n) (A : St) (k o i i0 : Nat) (acc : List Rx) (b : Option Nat) (x : Except (Nat × Int) (Rx × Nat)) (r0 r1 r2 : D) (hk : k < A.length) (h0 : i0 < i) (hi : i ≤ l.length) (hne : acc ≠ []) (hs : Rx.sizes acc + acc.length ≤ 2 * (i - i0)) (hn : Rx.Nms acc) (hb : AccOk b 3 (acc.map encRx)) (ho : o ≤ 50) (h : pSeqs l (n + 1) o i acc = some x) :
    Tot (refOut A k l o i0 2 x) (LP Tryz.prog rxA 150 [0, 0, 1, 1] [(st A k (rdC l (i0 : Nat) (o : Nat) 0 0))] (Env.mk (sp [(0, .ref k 0), (1, .ref A.length 0), (0, accD b (A.length + 1) 3 (acc.map encRx))] 19) []) (st (accA b (A ++ [.cells [r0, r1, r2]]) (acc.map encRx)) k (rdC l (i : Nat) (o : Nat) 0 0))) := by
  have hls := Rx.len_sizes acc
  simp only [pSeqs] at h
  have hwi := wordAt_short hw i
  by_cases hp : starts (wordAt l i) = true
  · rw [if_pos hp] at h
    have hlt := qb3 (l := l) (i := i) (starts_ne hp)
    have hwd := s174 (accA b (A ++ [.cells [r0, r1, r2]]) (acc.map encRx)) k l i o 0 0 (lenA (lenL hk)) (by omega) (by omega) hwi
    rw [hp] at hwd
    refine qbj (q150_0 ..) ?_
    unfold n150_0; dsimp only
    (repeat' first | (with_reducible first | apply qad | apply qa2 | apply qbd | apply qaw | apply qav (b := true) | apply qaa (b := true) | apply qar | apply qb4 | (apply qbz; omega)) | ((conv => arg 2; arg 1; simp (disch := first | omega | assumption) only [qbb, qai, qaf, Nat.zero_add, qa4, qan, stAL_load, rdl3, r174, hwd]); (with_reducible first | apply qad | apply qaa (b := true))))
    have hap := fun cs r => st_app1_1 (A := A) (k := k) (w := 48) (n := 3) (s0 := .cells [r0, r1, r2]) (cs := cs) (d := encRx r) hb (by simp; omega) (by omega) hk
    have hml : ∀ r, acc.map encRx ++ [encRx r] = (acc ++ [r]).map encRx := fun r => by simp
    simp only [hml] at hap
    conv => arg 2; arg 1; simp (disch := first | omega | assumption) only [qa4, qan, r173]
    rcases PR.bind_some h with ⟨⟨a, c⟩, h1, rfl⟩ | ⟨r, j, h1, h2⟩
    · have hq := ih.rep (accA b (A ++ [.cells [r0, r1, r2]]) (acc.map encRx)) k o i _ (lenA (lenL hk)) (by omega) ho h1
      refine tot_bn hq fun z hz => ?_
      obtain ⟨e, i', rfl, he, hi'⟩ := hz
      obtain ⟨hf1, hf2, hf3⟩ : i ≤ a ∧ a ≤ l.length ∧ (c = 90 ∨ c = 91) := (facts hw n).rep o i _ (by omega) h1
      have hx := refSeq_exit hl A k hk i' o a c i0 o 0 0 (acc ++ [e]) none r0 r1 r2 (.own _ _) (by simp only [Rx.sizes_append, Rx.sizes]; omega) (by omega) (wordAt_short hw _) (by omega)
      (repeat' first | (with_reducible first | apply qa2 | apply qaw) | ((conv => arg 2; arg 1; simp (disch := first | omega | assumption) only [qa4, qbc, qa9, sp3_rx, hap]); (with_reducible apply qad)))
      conv => arg 2; simp only [qa4, qbc, qa9]
      refine ⟨_, hx, joinR 4 (acc ++ [e]), i', rfl, ?_, hi'⟩
      have := joinR_size 4 (acc ++ [e])
      simp only [Rx.sizes_append, Rx.sizes] at this
      omega
    · have hq := ih.rep (accA b (A ++ [.cells [r0, r1, r2]]) (acc.map encRx)) k o i _ (lenA (lenL hk)) (by omega) ho h1
      refine tot_bn hq fun z hz => ?_
      have g : P.Good l.length i r j := (facts hw n).rep o i _ (by omega) h1
      have g1 := g.lt; have g2 := g.size; have g3 := g.le
      cases (show z = _ from hz)
      have hx := ih.seqs A k o j i0 (acc ++ [r]) none x r0 r1 r2 hk (by omega) g.le (by simp) (by simp only [Rx.sizes_append, Rx.sizes, List.length_append, List.length_cons, List.length_nil]; omega) ((Rx.Nms_append _ _).2 ⟨hn, g.nm, trivial⟩) (.own _ _) ho h2
      (repeat' first | (with_reducible first | apply qa2 | apply qaw) | ((conv => arg 2; arg 1; simp (disch := first | omega | assumption) only [qa4, qbc, qa9, sp3_rx, hap]); (with_reducible apply qad)))
      conv => arg 2; simp only [qa4, qbc, qa9]
      exact hx
  · rw [if_neg hp] at h
    cases h
    rw [← joinR_4]
    exact ⟨_, refSeq_exit hl A k hk i o 0 0 i0 o 0 0 acc b r0 r1 r2 hb (by omega) (by omega) hwi (fun _ => by simpa using hp), rfl⟩
theorem refSeq_step {n : Nat} (ih : RefSpec l n) (A : St) (k o i : Nat) (x : Except (Nat × Int) (Rx × Nat)) (hk : k < A.length) (hi : i ≤ l.length) (ho : o ≤ 50) (h : pSeq l (n + 1) o i = some x) :
    Tot (refOut A k l o i 2 x) (f150 (.ref k 0) (st A k (rdC l (i : Nat) (o : Nat) 0 0))) := by
  simp only [pSeq] at h
  unfold f150 n150; dsimp only
  (repeat' first | ((conv => arg 2; arg 1; simp (disch := first | omega | assumption) only [qbg, qak, st_appr]); (with_reducible apply qad)))
  conv => arg 2; arg 1; simp (disch := first | omega | assumption) only [qan, r173]
  rcases PR.bind_some h with ⟨⟨a, c⟩, h1, rfl⟩ | ⟨r, j, h1, h2⟩
  · have hq := ih.rep (A ++ [.cells [.int .i64 0, .str [], .sl .full 0 []]]) k o i _ (lenL hk) (by omega) ho h1
    refine tot_bn hq fun z hz => ?_
    obtain ⟨e, i', rfl, he, hi'⟩ := hz
    obtain ⟨hf1, hf2, hf3⟩ : i ≤ a ∧ a ≤ l.length ∧ (c = 90 ∨ c = 91) := (facts hw n).rep o i _ (by omega) h1
    have hx := refSeq_exit hl A k hk i' o a c i o 0 0 [e] (some 3) (.int .i64 0) (.str []) (.sl .full 0 []) (.full _ _) (by simp only [Rx.sizes]; omega) (by omega) (wordAt_short hw _) (by omega)
    (repeat' first | (with_reducible first | apply qa2 | apply qaw) | ((conv => arg 2; arg 1; simp (disch := first | omega | assumption) only [sp3_rx]); (with_reducible apply qad)))
    conv => arg 2; simp only []
    refine ⟨_, hx, joinR 4 [e], i', rfl, ?_, hi'⟩
    have : joinR 4 [e] = e := rfl
    rw [this]
    omega
  · have hq := ih.rep (A ++ [.cells [.int .i64 0, .str [], .sl .full 0 []]]) k o i _ (lenL hk) (by omega) ho h1
    refine tot_bn hq fun z hz => ?_
    have g : P.Good l.length i r j := (facts hw n).rep o i _ (by omega) h1
    have g1 := g.lt; have g2 := g.size; have g3 := g.le
    cases (show z = _ from hz)
    have hx := ih.seqs A k o j i [r] (some 3) x (.int .i64 0) (.str []) (.sl .full 0 []) hk g.lt g.le (by simp) (by simp only [Rx.sizes, List.length_cons, List.length_nil]; omega) ⟨g.nm, trivial⟩ (.full _ _) ho h2
    (repeat' first | (with_reducible first | apply qa2 | apply qaw) | ((conv => arg 2; arg 1; simp (disch := first | omega | assumption) only [sp3_rx]); (with_reducible apply qad)))
    conv => arg 2; simp only []
    exact hx
end Go.Vm.Rx
