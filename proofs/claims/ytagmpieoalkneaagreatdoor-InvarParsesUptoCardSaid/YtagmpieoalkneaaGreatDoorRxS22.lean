/- RxS18, RxS19, RxS20, RxS21, RxS22 in one text. -/
import Derived.Test.YtagmpieoalkneaaGreatDoorRxS17
import Derived.Test.YtagmpieoalkneaaGreatDoorRxI3
set_option linter.all false
/- The reference's reader of words: repetitions. -/
namespace Go.Vm.Rx
open Go Go.Proofs P
set_option maxRecDepth 10000
set_option maxHeartbeats 400000
structure IsKs (x : D) (ks : List Rx) : Prop where
  cell : x.cell? = some x
  shut : ∀ n, x.shut n = x
  canon : x.canon = encL 3 (ks.map encRx)
theorem IsKs.enc (ks : List Rx) : IsKs (encL 3 (ks.map encRx)) ks := ⟨rfl, fun n => rxs_shut ks 3 n, rxs_canon ks 3⟩
theorem IsKs.one {x : D} {op : Int} {nm : Str} {ks : List Rx} (h : IsKs x ks) : IsKs (.sl .full 3 [.agg [.int .i64 op, .str nm, x]]) [.mk op nm ks] := by
  refine ⟨rfl, fun n => by simp [h.shut], ?_⟩
  simp only [D.canon, qat, qau, qbp, qah, qas, h.canon, List.map_cons, List.map_nil, encRx_mk]
  rfl
section
variable {x : D} {ks : List Rx} (h : IsKs x ks) (op : Int) (nm : Str)
include h
theorem ks_cells : (D.agg [.int .i64 op, .str nm, x]).cellsT true = some [.int .i64 op, .str nm, x] := by
  have e : allCells [.int .i64 op, .str nm, x] = true := by
    show (true && (true && (x.cell?.isSome && true))) = true
    rw [h.cell]; rfl
  simp [D.cellsT, D.agg?, e]
theorem ks_lay (a b c : D) : layCells true 3 0 [a, b, c] (.agg [.int .i64 op, .str nm, x]) = some [.int .i64 op, .str nm, x] := by simp [layCells, ks_cells h, splice]
theorem ks_sp : sliceParts 3 true 0 [(0, .agg [.int .i64 op, .str nm, x])] = some [.agg [.int .i64 op, .str nm, x]] := sparts1 _ _ _ _ (ks_cells h op nm) rfl
theorem ks_ret (n : Nat) : ((D.agg [.int .i64 op, .str nm, x]).shut n).canon = encRx (.mk op nm ks) := by
  simp only [qb2, qax, qay, qam, qbw, h.shut, qbp, qat, qau, qah, qas, h.canon, encRx_mk]
end
variable {l : List Word} (hl : l.length ≤ 1100000)
include hl
theorem refReps (A : St) (k o i0 : Nat) (hk : k < A.length) (ho : o ≤ 50) : ∀ (n i : Nat) (op : Int) (nm : Str) (ks : List Rx) (x y r0 r1 r2 : D) (z : Except (Nat × Int) (Rx × Nat)), i ≤ l.length → IsKs x ks → pReps l n i (.mk op nm ks) = some z →
    Tot (refOut A k l o i0 1 z) (LP Tryz.prog rxA 173 [0, 0, 1, 1] [(st A k (rdC l (i0 : Nat) (o : Nat) 0 0))] (Env.mk (sp [(0, .ref k 0), (1, .ref A.length 0), (0, .ref (A.length + 1) 0), (21, y)] 9) [])
      (st (A ++ [.cells [r0, r1, r2], .cells [.int .i64 op, .str nm, x]]) k (rdC l (i : Nat) (o : Nat) 0 0))) := by
  intro n
  induction n with
  | zero => intro i op nm ks x y r0 r1 r2 z hi hx h; cases h
  | succ n ih =>
    intro i op nm ks x y r0 r1 r2 z hi hx h
    simp only [pReps] at h
    have hwd := s151 (A ++ [.cells [r0, r1, r2], .cells [.int .i64 op, .str nm, x]]) k l i o 0 0 (lenL hk) (by omega) (by omega)
    have hlay := ks_lay hx op nm
    have hpx := ks_sp hx op nm
    have hret := ks_ret hx op nm
    have hkp := fun L => stL_Kept (A := A) (k := k) (cs := rdC l (i0 : Nat) o 0 0) (cs' := rdC l (i : Nat) o 0 0) (L := L) (rdC_shut _ _ _ _ _ _)
    have hone := fun (op' : Int) => (IsKs.one (op := op) (nm := nm) hx)
    have hshc : ∀ (op' : Int) (n : Nat), (Slot.cells [.int .i64 op', .str [], .sl .full 3 [.agg [.int .i64 op, .str nm, x]]]).shut n = .cells [.int .i64 op', .str [], .sl .full 3 [.agg [.int .i64 op, .str nm, x]]] := fun op' n => by simp [hx.shut]
    have hkl := fun (op' : Int) => stLL2_Kept (A := A) (k := k) (cs := rdC l (i : Nat) o 0 0) (cs' := rdC l ((i : Int) + 1) o 0 0) (s0 := .cells [r0, r1, r2]) (s1 := .cells [.int .i64 op, .str nm, x]) (t1 := .cells [.int .i64 op', .str [], .sl .full 3 [.agg [.int .i64 op, .str nm, x]]]) (fun n => rdC_shut _ _ _ _ _ n) (hshc op') hk
    have hs1 : (D.ref (A.length + 1) 0).shut (A.length + 2) = .ref (A.length + 1) 0 := qcf _ (by omega)
    have hs0 : (D.ref A.length 0).shut (A.length + 2) = .ref A.length 0 := qcf _ (by omega)
    have hsk : (D.ref k 0).shut (A.length + 2) = .ref k 0 := qcf _ (by omega)
    refine qbj (q173_0 ..) ?_
    unfold n173_0; dsimp only
    (repeat' first | (with_reducible first | (apply qbk; intro hkk hke) | (apply qbu; · assumption) | apply qad | apply tp_bnbn | apply qa2 | apply qaw | apply tp_gk | apply qaj | apply qaa (b := true) | apply qaa (b := false) | apply qar | apply qaq | (apply qbz; omega) | (apply tot_seql; all_goals intro hsp)) | ((conv => arg 2; arg 1; simp (disch := first | omega | assumption) only [qcb, Option.map_some, qa1, qa0, qao, qai, qaf, Nat.zero_add, lay_int, lay_sl, lay_s, ofA3, qa4, qbc, qa9, qaz, qan, ld_sh, qb1, ldc0, ldcS, qca, qb6, qcg, stocS, eg_0, eg_S, qb5, qcj, st_ldo, qcc, rdl1, rdl3, rds1, r151, hwd, hlay, hpx, lay3, hkl]); (with_reducible first | apply qad | apply qbf | (apply qbz; omega) | (apply qb8; omega))))
    · have e : opOf (wordAt l i) = 6 := by simp [opOf, *]
      rw [e, if_neg (by decide)] at h
      conv => arg 2; simp (disch := first | omega | assumption) only [qam, qbr, qbw, shut_sl, qb2, qay, qax, own_full, List.map_nil, Nat.zero_add, List.length_append, List.length_cons, List.length_nil, qa4, qbc, qa9, qak, Nat.reduceAdd, eg_0, eg_S, hs0, hs1, hsk, stLL2_take]
      exact ih (i + 1) 6 [] [.mk op nm ks] _ _ r0 r1 r2 z (by have := qb3 (l := l) (i := i) (by simp [*]); omega) (hone 6) h
    · have e : opOf (wordAt l i) = 7 := by simp [opOf, *]
      rw [e, if_neg (by decide)] at h
      conv => arg 2; simp (disch := first | omega | assumption) only [qam, qbr, qbw, shut_sl, qb2, qay, qax, own_full, List.map_nil, Nat.zero_add, List.length_append, List.length_cons, List.length_nil, qa4, qbc, qa9, qak, Nat.reduceAdd, eg_0, eg_S, hs0, hs1, hsk, stLL2_take]
      exact ih (i + 1) 7 [] [.mk op nm ks] _ _ r0 r1 r2 z (by have := qb3 (l := l) (i := i) (by simp [*]); omega) (hone 7) h
    · have e : opOf (wordAt l i) = 8 := by simp [opOf, *]
      rw [e, if_neg (by decide)] at h
      conv => arg 2; simp (disch := first | omega | assumption) only [qam, qbr, qbw, shut_sl, qb2, qay, qax, own_full, List.map_nil, Nat.zero_add, List.length_append, List.length_cons, List.length_nil, qa4, qbc, qa9, qak, Nat.reduceAdd, eg_0, eg_S, hs0, hs1, hsk, stLL2_take]
      exact ih (i + 1) 8 [] [.mk op nm ks] _ _ r0 r1 r2 z (by have := qb3 (l := l) (i := i) (by simp [*]); omega) (hone 8) h
    · have e : opOf (wordAt l i) = 0 := by simp [opOf, *]
      rw [e, if_pos rfl] at h
      cases h
      have hxc : ∀ n, (x.shut n).canon = encL 3 (ks.map encRx) := fun n => by rw [hx.shut, hx.canon]
      ((try conv => arg 2; simp (disch := first | omega | assumption) only [qac, qam, qbw, qb2, qay, qax, qae, qah, qas, qbp, qau, qat, qab, qag, qak, qbv, hkp, hxc]); refine qal ?_)
      show _ = _
      rw [encRx_mk]
theorem refReps_bad (A : St) (k o i0 : Nat) (hk : k < A.length) (i a : Nat) (c : Int) (hc : c ≠ 0) (e : Rx) (y r0 r1 r2 : D) :
    LP Tryz.prog rxA 173 [0, 0, 1, 1] [(st A k (rdC l (i0 : Nat) (o : Nat) 0 0))] (Env.mk (sp [(0, .ref k 0), (1, .ref A.length 0), (0, .ref (A.length + 1) 0), (21, y)] 9) [])
      (st (A ++ [.cells [r0, r1, r2], .cells [.int .i64 e.op, .str e.nm, encL 3 (e.ks.map encRx)]]) k (rdC l (i : Nat) (o : Nat) c a)) = some (.ret (encRx e), st A k (rdC l (i : Nat) (o : Nat) c a)) := by
  have hkp := fun L => stL_Kept (A := A) (k := k) (cs := rdC l (i0 : Nat) o 0 0) (cs' := rdC l (i : Nat) o c a) (L := L) (rdC_shut _ _ _ _ _ _)
  refine qa6 (qbj (q173_0 ..) ?_)
  unfold n173_0; dsimp only
  (repeat' first | (with_reducible first | apply qa2 | apply qaj | apply qaa (b := false) | apply qaq | (apply qb8; omega)) | ((conv => arg 2; arg 1; simp (disch := first | omega | assumption) only [qcb, Option.map_some, qao, qai, qaf, Nat.zero_add, ofA3, qa4, qbc, qa9, qaz, ld_sh, qb1, ldc0, ldcS, qb6, qcg, qb5, st_ldo, qcc, rdl3, rx_fold, rx_lay]); (with_reducible apply qad)))
  ((try conv => arg 2; simp (disch := first | omega | assumption) only [qac, qae, qab, qag, qak, qbv, hkp, rx_shut, qch]); refine qal ?_)
  rfl
variable (hw : ∀ w, w ∈ l → w.t.length ≤ 100000000)
include hw
theorem refRep_step {n : Nat} (ih : RefSpec l n) (A : St) (k o i : Nat) (x : Except (Nat × Int) (Rx × Nat)) (hk : k < A.length) (hi : i ≤ l.length) (ho : o ≤ 50) (h : pRep l (n + 1) o i = some x) :
    Tot (refOut A k l o i 1 x) (f173 (.ref k 0) (st A k (rdC l (i : Nat) (o : Nat) 0 0))) := by
  simp only [pRep] at h
  unfold f173 n173; dsimp only
  (repeat' first | ((conv => arg 2; arg 1; simp (disch := first | omega | assumption) only [qbg, qak, st_appr]); (with_reducible apply qad)))
  conv => arg 2; arg 1; simp (disch := first | omega | assumption) only [qan, r196]
  rcases PR.bind_some h with ⟨⟨a, c⟩, h1, rfl⟩ | ⟨r, j, h1, h2⟩
  · have hq := ih.atom (A ++ [.cells [.int .i64 0, .str [], .sl .full 0 []]]) k o i _ (lenL hk) (by omega) ho h1
    refine tot_bn hq fun z hz => ?_
    obtain ⟨e, i', rfl, he, hi'⟩ := hz
    obtain ⟨hf1, hf2, hf3⟩ : i ≤ a ∧ a ≤ l.length ∧ (c = 90 ∨ c = 91) := (facts hw n).atom o i _ (by omega) h1
    have hx := refReps_bad hl A k o i hk i' a c (by omega) e (.tup []) (.int .i64 0) (.str []) (.sl .full 0 [])
    (repeat' first | (with_reducible first | apply qa2 | apply qaw) | ((conv => arg 2; arg 1; simp (disch := first | omega | assumption) only [Nat.zero_add, qbg, List.length_append, List.length_cons, List.length_nil, qaz, qak, qb9, qb0, qca, qcg, stocS, stL_appr, qcc, rx_lay]); (with_reducible apply qad)))
    conv => arg 2; simp only []
    exact ⟨_, hx, e, i', rfl, he, hi'⟩
  · have hq := ih.atom (A ++ [.cells [.int .i64 0, .str [], .sl .full 0 []]]) k o i _ (lenL hk) (by omega) ho h1
    refine tot_bn hq fun z hz => ?_
    have g : P.Good l.length i r j := (facts hw n).atom o i _ (by omega) h1
    cases (show z = _ from hz)
    have hr : r = .mk r.op r.nm r.ks := by cases r; rfl
    have hx := refReps hl A k o i hk ho n j r.op r.nm r.ks _ (.tup []) (.int .i64 0) (.str []) (.sl .full 0 []) x g.le (IsKs.enc _) (by rw [← hr]; exact h2)
    (repeat' first | (with_reducible first | apply qa2 | apply qaw) | ((conv => arg 2; arg 1; simp (disch := first | omega | assumption) only [Nat.zero_add, qbg, List.length_append, List.length_cons, List.length_nil, qaz, qak, qb9, qb0, qca, qcg, stocS, stL_appr, qcc, rx_lay]); (with_reducible apply qad)))
    conv => arg 2; simp only []
    exact hx
end Go.Vm.Rx

/- The reference's reader of words: atoms, and the whole reader. -/
namespace Go.Vm.Rx
open Go Go.Proofs P
set_option maxRecDepth 10000
set_option maxHeartbeats 800000
variable {l : List Word} (hl : l.length ≤ 1100000) (hw : ∀ w, w ∈ l → w.t.length ≤ 100000000)
include hl hw
theorem refAtom_step {n : Nat} (ih : RefSpec l n) (A : St) (k o i : Nat) (x : Except (Nat × Int) (Rx × Nat)) (hk : k < A.length) (hi : i ≤ l.length) (ho : o ≤ 50) (h : pAtom l (n + 1) o i = some x) :
    Tot (refOut A k l o i 1 x) (f196 (.ref k 0) (st A k (rdC l (i : Nat) (o : Nat) 0 0))) := by
  simp only [pAtom] at h
  have hkp := fun (L : St) (i' o' b' a' : Int) => stL_Kept (A := A) (k := k) (cs := rdC l (i : Nat) o 0 0) (cs' := rdC l i' o' b' a') (L := L) (rdC_shut _ _ _ _ _ _)
  have hwd := fun (L : St) (j : Nat) (hj : j ≤ 2000000) => s151 (A ++ L) k l j o 0 0 (lenL hk) (by omega) (by omega)
  have hw0 := fun L => hwd L i (by omega)
  have hw1 := fun L => hwd L (i + 1) (by omega)
  have hfl := fun (L : St) (i' : Int) (e : Int) => s118 (A ++ L) k l i' o 0 e (lenL hk)
  have hs1 := wordAt_short hw (i + 1)
  have hs0 := wordAt_short hw i
  have hn1 := fun A => s48 (wordAt l (i + 1)) (by omega) A
  have hn0 := fun A => s48 (wordAt l i) (by omega) A
  have hlw : ∀ j : Nat, j < l.length → indexAddrO 3 true (encL 3 (l.map encW)) (.int .i64 (j : Int)) = some (.peek [.str (wordAt l j), .int .i64 l[j]!.line, .int .i64 l[j]!.col]) := fun j hj => by
    rw [idx_map hj, cellW, getElem!_pos l j hj, wordAt_lt hj]; rfl
  have hf0 : f196 (.ref k 0) (st A k (rdC l (i : Nat) (o : Nat) 0 0)) = f196 (.ref k 0) (st A k (rdC l (i : Nat) (o : Nat) 0 0)) := rfl
  unfold f196 n196; dsimp only
  by_cases h46 : wordAt l i = [46]
  · rw [if_pos h46] at h
    cases h
    rw [h46] at hw0
    (repeat' first | (with_reducible first | apply qad | apply tp_bnbn | apply qa2 | apply qaw | apply qaj | apply qaa (b := true) | apply qar | (apply qcd; first | assumption | with_reducible rfl)) | ((conv => arg 2; arg 1; simp (disch := first | omega | assumption) only [qa1, qa0, qai, qaf, Nat.zero_add, qbg, lay_int, ofA3, qaz, qan, qak, qb1, ldc0, qb6, qcg, qb5, qcj, st_appr, st_ldo, qcc, rdl1, rds1, r151, hw0, lay3]); (with_reducible apply qad)))
    ((try conv => arg 2; simp (disch := first | omega | assumption) only [qac, qam, qbw, shut_sl, qb2, qay, qax, own_full, qae, qah, qas, qbp, qau, qat, canon_nil, qab, qag, qak, qbv, hkp]); refine qal ?_)
    rfl
  · rw [if_neg h46] at h
    by_cases h36 : wordAt l i = [36]
    · rw [if_pos h36] at h
      have hlt := qb3 (l := l) (i := i) (by rw [h36]; simp)
      rw [h36] at hw0
      simp only [Int.natCast_add, Int.natCast_one] at hw1
      by_cases hnm : isName (wordAt l (i + 1)) = true
      · rw [if_pos hnm] at h
        cases h
        have hlt1 := qb3 (l := l) (i := i + 1) (isName_ne hnm)
        rw [hnm] at hn1
        have hx := hlw (i + 1) hlt1
        simp only [Int.natCast_add, Int.natCast_one] at hx
        have hi2 : (i : Int) + 1 + 1 - 1 = (i : Int) + 1 := by omega
        (repeat' first | (with_reducible first | apply qad | apply tp_bnbn | apply qa2 | apply qaw | apply qaj | apply qaa (b := true) | apply qaa (b := false) | apply qar | apply qaq | (apply qcd; first | assumption | with_reducible rfl) | (apply qbm; first | assumption | decide | exact List.cons_ne_nil _ _)) | ((conv => arg 2; arg 1; simp (disch := first | omega | assumption) only [Option.map_some, qa1, binO_sub, qa0, qai, qaf, fieldAddr_peek, qbs, qa8, List.drop_zero, Nat.zero_add, Nat.add_zero, qbg, lay_int, lay_s, ofA3, un_not, Bool.not_true, qaz, qas, qan, qak, qb1, ldc0, qb6, qcg, lay_str, qb5, qcj, st_appr, st_ldo, qcc, rdl0, rdl1, rds1, r151, hw0, hw1, lay3, r48, hn1, hi2, hx]); (with_reducible apply qad)))
        ((try conv => arg 2; simp (disch := first | omega | assumption) only [qac, qam, qbw, shut_sl, qb2, qay, qax, own_full, qae, qah, qas, qbp, qau, qat, canon_nil, qab, qag, qak, qbv, hkp]); refine qal ?_)
        show _ = _
        rw [encRx_mk]
        simp only [Int.natCast_add]
        rfl
      · rw [if_neg hnm] at h
        cases h
        simp only [Bool.not_eq_true] at hnm
        rw [hnm] at hn1
        (repeat' first | (with_reducible first | apply qad | apply tp_bnbn | apply qa2 | apply qaw | apply qaj | apply qaa (b := true) | apply qaa (b := false) | apply qar | apply qaq | (apply qcd; first | assumption | with_reducible rfl) | (apply qbm; first | assumption | decide | exact List.cons_ne_nil _ _)) | ((conv => arg 2; arg 1; simp (disch := first | omega | assumption) only [qa1, qa0, qai, qaf, Nat.zero_add, qbg, ofA3, un_not, Bool.not_false, qaz, qah, qas, qan, qak, qb1, ldc0, qb6, qcg, qb5, qcj, st_appr, st_ldo, qcc, rdl1, rds1, r151, hw0, hw1, rx_lay, rx_fold, r48, hn1, r118, hfl]); (with_reducible apply qad)))
        ((try conv => arg 2; simp (disch := first | omega | assumption) only [qac, qae, qab, qag, qak, qbv, hkp, rx_shut, qch]); refine qal ?_)
        exact ⟨_, i + 1, rfl, by simp only [Rx.size, Rx.sizes]; omega, by omega⟩
    · rw [if_neg h36] at h
      by_cases h40 : wordAt l i = [40]
      · rw [if_pos h40] at h
        have hlt := qb3 (l := l) (i := i) (by rw [h40]; simp)
        rw [h40] at hw0
        by_cases ho5 : 50 ≤ o
        · rw [if_pos ho5] at h
          cases h
          (repeat' first | (with_reducible first | apply qad | apply tp_bnbn | apply qa2 | apply qaw | apply qaj | apply qaa (b := true) | apply qaa (b := false) | apply qar | apply qaq | (apply tot_geq_t; omega) | (apply qcd; first | assumption | with_reducible rfl) | (apply qbm; first | assumption | decide | exact List.cons_ne_nil _ _)) | ((conv => arg 2; arg 1; simp (disch := first | omega | assumption) only [qai, qaf, Nat.zero_add, qbg, ofA3, qaz, qah, qan, qak, qb1, ldc0, qb6, qcg, qb5, st_appr, st_ldo, qcc, rdl2, r151, hw0, rx_lay, rx_fold, r118, hfl]); (with_reducible apply qad)))
          ((try conv => arg 2; simp (disch := first | omega | assumption) only [qac, qae, qab, qag, qak, qbv, hkp, rx_shut, qch]); refine qal ?_)
          exact ⟨_, i, rfl, by simp only [Rx.size, Rx.sizes]; omega, by omega⟩
        · rw [if_neg ho5] at h
          by_cases h41 : wordAt l (i + 1) = [41]
          · rw [if_pos h41] at h
            cases h
            rw [h41] at hw1
            simp only [Int.natCast_add, Int.natCast_one] at hw1
            (repeat' first | (with_reducible first | apply qad | apply tp_bnbn | apply qa2 | apply qaw | apply qaj | apply qaa (b := true) | apply qaa (b := false) | apply qar | apply qaq | (apply tot_geq_f; omega) | (apply qcd; first | assumption | with_reducible rfl) | (apply qbm; first | assumption | decide | exact List.cons_ne_nil _ _)) | ((conv => arg 2; arg 1; simp (disch := first | omega | assumption) only [qa1, qa0, qai, qaf, Nat.zero_add, qbg, lay_int, ofA3, qaz, qan, qak, qb1, ldc0, qb6, qcg, qb5, qcj, st_appr, st_ldo, qcc, rdl1, rdl2, rds1, r151, hw0, hw1, lay3]); (with_reducible apply qad)))
            ((try conv => arg 2; simp (disch := first | omega | assumption) only [qac, qam, qbw, shut_sl, qb2, qay, qax, own_full, qae, qah, qas, qbp, qau, qat, canon_nil, qab, qag, qak, qbv, hkp]); refine qal ?_)
            show _ = _
            simp only [Int.natCast_add]
            rfl
          · rw [if_neg h41] at h
            simp only [Int.natCast_add, Int.natCast_one] at hw1
            (repeat' first | (with_reducible first | apply qa2 | apply qaw | apply qaa (b := true) | apply qaa (b := false) | apply qar | apply qaq | (apply tot_geq_f; omega) | (apply qcd; first | assumption | with_reducible rfl) | (apply qbm; first | assumption | decide | exact List.cons_ne_nil _ _)) | ((conv => arg 2; arg 1; simp (disch := first | omega | assumption) only [qa1, qa0, qai, qaf, Nat.zero_add, qbg, qaz, qan, qak, qb5, qcj, st_appr, rdl1, rdl2, rds1, rds2, r151, hw0, hw1]); (with_reducible apply qad)))
            conv => arg 2; arg 1; simp (disch := first | omega | assumption) only [qan, r117]
            have hco : ((o : Int) + 1 - 1) = o := by omega
            rcases PR.bind_some h with ⟨⟨a, c⟩, h1, rfl⟩ | ⟨r, j, h1, h2⟩
            · have hq := ih.alt (A ++ [.cells [.int .i64 0, .str [], .sl .full 0 []]]) k (o + 1) (i + 1) _ (lenL hk) (by omega) (by omega) h1
              refine tot_bn hq fun z hz => ?_
              obtain ⟨e, i', rfl, he, hi'⟩ := hz
              obtain ⟨hf1, hf2, hf3⟩ : i + 1 ≤ a ∧ a ≤ l.length ∧ (c = 90 ∨ c = 91) := (facts hw n).alt (o + 1) (i + 1) _ (by omega) h1
              simp only [Int.natCast_add, Int.natCast_one]
              (repeat' first | (with_reducible first | apply qad | apply tp_bnbn | apply qa2 | apply qbd | apply qaw | apply qaj | apply qav (b := false) | apply qaa (b := false) | apply qaq | apply qce | (apply qb8; omega)) | ((conv => arg 2; arg 1; simp (disch := first | omega | assumption) only [qa7, qa1, binO_sub, qa0, qai, qaf, Nat.zero_add, qbg, ofA3, List.length_append, List.length_cons, List.length_nil, qaz, qak, qb9, qb0, ld_sh, qb1, ldc0, ldcS, qca, qb6, qcg, stocS, qb5, qcj, stL_appr, st_ldo, qcc, rdl1, rdl2, rdl3, rds1, rds2, rx_lay, rx_fold, hco]); (with_reducible first | apply qad | apply qaa (b := false))))
              ((try conv => arg 2; simp (disch := first | omega | assumption) only [qac, qae, qab, qag, qak, qbv, hkp, rx_shut, qch]); refine qal ?_)
              exact ⟨e, i' + 1, rfl, by omega, by omega⟩
            · have hq := ih.alt (A ++ [.cells [.int .i64 0, .str [], .sl .full 0 []]]) k (o + 1) (i + 1) _ (lenL hk) (by omega) (by omega) h1
              refine tot_bn hq fun z hz => ?_
              have g : P.Good l.length (i + 1) r j := (facts hw n).alt (o + 1) (i + 1) _ (by omega) h1
              have g1 := g.lt; have g2 := g.size; have g3 := g.le
              cases (show z = _ from hz)
              have hwj := fun L => hwd L j (by omega)
              simp only [Int.natCast_add, Int.natCast_one]
              by_cases hj : wordAt l j = [41]
              · rw [if_pos hj] at h2
                cases h2
                rw [hj] at hwj
                (repeat' first | (with_reducible first | apply qad | apply tp_bnbn | apply qa2 | apply qbd | apply qaw | apply qaj | apply qav (b := true) | apply qaa (b := true) | apply qaq | apply qb4 | (apply qbz; omega) | (apply tot_sneq_t; first | assumption | with_reducible rfl)) | ((conv => arg 2; arg 1; simp (disch := first | omega | assumption) only [qbb, qa1, binO_sub, qa0, qai, qaf, Nat.zero_add, qbg, ofA3, List.length_append, List.length_cons, List.length_nil, qaz, qan, qak, qb9, qb0, ld_sh, qb1, ldc0, ldcS, qca, qb6, qcg, stocS, qb5, qcj, stL_appr, st_ldo, qcc, rdl1, rdl2, rdl3, rds1, rds2, rx_lay, rx_fold, hco, r151, hwj]); (with_reducible first | apply qad | apply qaa (b := false))))
                ((try conv => arg 2; simp (disch := first | omega | assumption) only [qac, qae, qab, qag, qak, qbv, hkp, rx_shut, qch]); refine qal ?_)
                rfl
              · rw [if_neg hj] at h2
                cases h2
                (repeat' first | (with_reducible first | apply qad | apply tp_bnbn | apply qa2 | apply qbd | apply qaw | apply qaj | apply qav (b := true) | apply qaa (b := true) | apply qar | apply qb4 | (apply qbz; omega) | (apply tot_sneq_f; first | assumption | decide | exact List.cons_ne_nil _ _)) | ((conv => arg 2; arg 1; simp (disch := first | omega | assumption) only [qbb, binO_sub, qa0, qai, qaf, Nat.zero_add, qbg, ofA3, List.length_append, List.length_cons, List.length_nil, qaz, qah, qan, qak, qb9, qb0, qb1, ldc0, qca, qb6, qcg, stocS, qb5, qcj, stL_appr, st_ldo, qcc, rdl2, rdl3, rds2, rx_lay, rx_fold, hco, r151, hwj, r118, hfl]); (with_reducible first | apply qad | apply qaa (b := true))))
                ((try conv => arg 2; simp (disch := first | omega | assumption) only [qac, qae, qab, qag, qak, qbv, hkp, rx_shut, qch]); refine qal ?_)
                exact ⟨_, j, rfl, by simp only [Rx.size, Rx.sizes]; omega, by omega⟩
      · rw [if_neg h40] at h
        by_cases hnm : isName (wordAt l i) = true
        · rw [if_pos hnm] at h
          cases h
          rw [hnm] at hn0
          have hlt := qb3 (l := l) (i := i) (isName_ne hnm)
          (repeat' first | (with_reducible first | apply qad | apply tp_bnbn | apply qa2 | apply qaw | apply qaj | apply qaa (b := true) | apply qaa (b := false) | apply qar | apply qaq | (apply qbm; first | assumption | decide | exact List.cons_ne_nil _ _)) | ((conv => arg 2; arg 1; simp (disch := first | omega | assumption) only [Option.map_some, qa1, qa0, qai, qaf, Nat.zero_add, qbg, lay_int, lay_s, ofA3, qaz, qas, qan, qak, qb1, ldc0, qb6, qcg, lay_str, qb5, qcj, st_appr, st_ldo, qcc, rdl1, rds1, r151, hw0, lay3, r48, hn0]); (with_reducible apply qad)))
          ((try conv => arg 2; simp (disch := first | omega | assumption) only [qac, qam, qbw, shut_sl, qb2, qay, qax, own_full, qae, qah, qas, qbp, qau, qat, canon_nil, qab, qag, qak, qbv, hkp]); refine qal ?_)
          show _ = _
          rw [encRx_mk]
          rfl
        · rw [if_neg hnm] at h
          cases h
          simp only [Bool.not_eq_true] at hnm
          rw [hnm] at hn0
          (repeat' first | (with_reducible first | apply qad | apply tp_bnbn | apply qa2 | apply qaw | apply qaj | apply qaa (b := false) | apply qaq | (apply qbm; first | assumption | decide | exact List.cons_ne_nil _ _)) | ((conv => arg 2; arg 1; simp (disch := first | omega | assumption) only [qbg, ofA3, qaz, qah, qas, qan, qak, qb1, ldc0, qb6, qcg, st_appr, st_ldo, qcc, r151, hw0, rx_lay, rx_fold, r48, hn0, r118, hfl]); (with_reducible apply qad)))
          ((try conv => arg 2; simp (disch := first | omega | assumption) only [qac, qae, qab, qag, qak, qbv, hkp, rx_shut, qch]); refine qal ?_)
          exact ⟨_, i, rfl, by simp only [Rx.size, Rx.sizes]; omega, by omega⟩
theorem refSpec : ∀ n, RefSpec l n
  | 0 => ⟨fun _ _ _ _ _ _ _ _ h => by simp [pAlt] at h, fun _ _ _ _ _ _ _ _ _ _ _ _ _ _ _ _ _ _ _ _ h => by simp [pAlts] at h, fun _ _ _ _ _ _ _ _ h => by simp [pSeq] at h, fun _ _ _ _ _ _ _ _ _ _ _ _ _ _ _ _ _ _ _ h => by simp [pSeqs] at h,
      fun _ _ _ _ _ _ _ _ h => by simp [pRep] at h, fun _ _ _ _ _ _ _ _ h => by simp [pAtom] at h⟩
  | n + 1 => by
    have ih := refSpec n
    exact ⟨fun A k o i x h1 h2 h3 h4 => refAlt_step hl hw ih A k o i x h1 h2 h3 h4,
      fun A k o i i0 acc b x r0 r1 r2 y h1 h2 h3 h4 h5 h6 h7 h8 h9 => refAlts_step hl hw ih A k o i i0 acc b x r0 r1 r2 y h1 h2 h3 h4 h5 h6 h7 h8 h9,
      fun A k o i x h1 h2 h3 h4 => refSeq_step hl hw ih A k o i x h1 h2 h3 h4,
      fun A k o i i0 acc b x r0 r1 r2 h1 h2 h3 h4 h5 h6 h7 h8 h9 => refSeqs_step hl hw ih A k o i i0 acc b x r0 r1 r2 h1 h2 h3 h4 h5 h6 h7 h8 h9,
      fun A k o i x h1 h2 h3 h4 => refRep_step hl hw ih A k o i x h1 h2 h3 h4,
      fun A k o i x h1 h2 h3 h4 => refAtom_step hl hw ih A k o i x h1 h2 h3 h4⟩
end Go.Vm.Rx

/- What the reference reads of words. -/
namespace Go.Vm.Rx
open Go Go.Proofs P
set_option maxRecDepth 10000
set_option maxHeartbeats 800000
variable {l : List Word} (hl : l.length ≤ 1100000) (hw : ∀ w, w ∈ l → w.t.length ≤ 100000000)
theorem st_new (A : St) (c0 : Slot) (cs cs' : List D) : A ++ [c0, .cells cs] = st (A ++ [c0, .cells cs']) (A.length + 1) cs := by simp [st]
theorem st_new2 (A : St) (c0 : Slot) (cs cs' : List D) : st (A ++ [c0, .cells cs']) (A.length + 1) cs = A ++ [c0, .cells cs] := by simp [st]
theorem st_new3 (A L : St) (c0 : Slot) (cs cs' : List D) : st (A ++ c0 :: .cells cs' :: L) (A.length + 1) cs = A ++ c0 :: .cells cs :: L := by simp [st]
theorem st_takeF (A L : St) (k : Nat) (cs : List D) (h : A.length ≤ k) : (st (A ++ L) k cs).take A.length = A := by
  unfold st
  rw [List.take_set_of_le (by omega)]
  simp
def readD (x : Rx × Nat × Int) : D := .tup [encRx x.1, .int .i64 (x.2.1 : Nat), .int .i64 x.2.2]
include hl hw
theorem s76 (A : St) : f76 (encL 3 (l.map encW)) A = some (.ret (readD (readP l)), A) := by
  obtain ⟨x, hx⟩ := (ends hw (8 * l.length + 4)).alt 0 0 (by omega) (by omega)
  have hfc := (facts hw (8 * l.length + 4)).alt 0 0 x (by omega) hx
  unfold readP
  rw [hx]
  unfold f76 n76; dsimp only
  refine qa6 ?_
  (repeat' first | (with_reducible first | apply qad | apply tp_bnbn | apply qa2) | ((conv => arg 2; arg 1; simp only [Nat.zero_add, box_agg2, allCells_nil, allCells_int, cond_true, qbg, List.length_append, List.length_cons, List.length_nil, app_one, qb9, qb0, lay_encL, allCells_encL]); (with_reducible apply qad)))
  rw [st_new A _ _ (rdC l 0 0 0 0)]
  conv => arg 2; arg 1; simp (disch := first | omega | assumption) only [qan, r117]
  have hq := (refSpec hl hw (8 * l.length + 4)).alt (A ++ [.cells [.int .i64 0, .str [], .sl .full 0 []], .cells (rdC l 0 0 0 0)]) (A.length + 1) 0 0 x (by simp) (by omega) (by omega) hx
  refine tot_bn hq fun z hz => ?_
  have hfl := fun c a i c0 L => s118 (A ++ c0 :: .cells (rdC l 0 0 0 0) :: L) (A.length + 1) l i 0 a c (by simp)
  simp only [st_new3] at hfl
  have hz0 : ((0:Nat):Int) = 0 := rfl
  have htk := fun L k cs h => st_takeF A L k cs h
  rcases x with ⟨a, c⟩ | ⟨r, j⟩
  · obtain ⟨e, i', rfl, he, hi'⟩ := hz
    obtain ⟨hf1, hf2, hf3⟩ : 0 ≤ a ∧ a ≤ l.length ∧ (c = 90 ∨ c = 91) := hfc
    have hc : c ≠ 0 := by omega
    simp only [st_new2]
    (repeat' first | (with_reducible first | (apply qbk; intro hkk hke) | (apply qbu; · assumption) | apply qad | apply qa2 | apply qbd | apply qaw | apply tp_gs0 | apply tp_gs1 | apply qaj | apply qav (b := false) | apply qaa (b := true) | apply qaa (b := false) | apply qar | apply qaq | apply qce | (apply qb8; omega) | (apply tot_neq_f; omega)) | ((conv => arg 2; arg 1; simp (disch := first | omega | assumption) only [qcb, qa7, Option.map_some, qao, qai, qaf, Nat.zero_add, qbg, ofA3, List.length_append, List.length_cons, List.length_nil, sameAd_refl, qaz, app_one, qb9, qb0, ld_sh, qb1, ldc0, ldcS, qca, qb6, qcg, stocS, Nat.reduceAdd, eg_0, eg_S, lay3, hz0, rx_lay, rdl3, rdl4]); (with_reducible first | apply qad | apply qbf | apply qaa (b := false))))
    ((try conv => arg 2; simp (disch := first | omega | assumption) only [qac, qam, qbw, shut_sl, qb2, qbq, qay, qax, own_full, qa5, qae, qah, qas, qbp, qbe, qau, qat, canon_nil, qab, qag, List.take_left']); refine qal ?_)
    rfl
  · cases (show z = _ from hz)
    have g : P.Good l.length 0 r j := hfc
    have g1 := g.size; have g2 := g.le
    have hch := s51 r (Rx.Nm.ok r g.nm (by omega))
    simp only [st_new2]
    by_cases hj : j < l.length
    · simp only [if_pos hj]
      (repeat' first | (with_reducible first | (apply qbk; intro hkk hke) | (apply qbu; · assumption) | apply qad | apply qa2 | apply qbd | apply qaw | apply tp_gs0 | apply tp_gs1 | apply qaj | apply qav (b := true) | apply qaa (b := true) | apply qar | apply qb4 | (apply qa3; omega) | (apply qbz; omega) | (apply tot_neq_f; omega)) | ((conv => arg 2; arg 1; simp (disch := first | omega | assumption) only [qcb, qbb, Option.map_some, qao, qai, qaf, Nat.zero_add, qbg, ofA3, List.length_append, List.length_cons, List.length_nil, sameAd_refl, qaz, qah, qan, qbt, app_one, qb9, qb0, ld_sh, qb1, ldc0, ldcS, qca, qb6, qcg, stocS, List.length_map, Nat.reduceAdd, eg_0, eg_S, lay3, hz0, rx_lay, rdl1, rdl3, rdl4, r118, hfl]); (with_reducible first | apply qad | apply qbf | apply qaa (b := true))))
      ((try conv => arg 2; simp (disch := first | omega | assumption) only [qac, qam, qbw, shut_sl, qb2, qbq, qay, qax, own_full, qa5, qae, qah, qas, qbp, qbe, qau, qat, canon_nil, qab, qag, List.take_left']); refine qal ?_)
      rfl
    · simp only [if_neg hj]
      by_cases hcz : r.check = 0
      · rw [if_pos hcz]
        rw [hcz] at hch
        (repeat' first | (with_reducible first | (apply qbk; intro hkk hke) | (apply qbu; · assumption) | apply qad | apply qa2 | apply qbd | apply qaw | apply qaj | apply qav (b := true) | apply qaa (b := true) | apply qaa (b := false) | apply qaq | apply qb4 | (apply qbo; omega) | (apply qbz; omega) | (apply tot_neq_t; omega)) | ((conv => arg 2; arg 1; simp (disch := first | omega | assumption) only [qcb, qbb, Option.map_some, qao, qai, qaf, Nat.zero_add, qbg, ofA3, List.length_append, List.length_cons, List.length_nil, qaz, qbt, app_one, qb9, qb0, ld_sh, qb1, ldc0, ldcS, qca, qb6, qcg, stocS, List.length_map, Nat.reduceAdd, eg_0, eg_S, hz0, rx_lay, rx_fold, rdl1, rdl3, r51, hch, qch]); (with_reducible first | apply qad | apply qaa (b := false))))
        ((try conv => arg 2; simp (disch := first | omega | assumption) only [qac, qam, qbq, qay, qax, qa5, qae, qah, qbe, qau, qat, qab, qag, List.take_left', rx_shut, qch]); refine qal ?_)
        rfl
      · rw [if_neg hcz]
        (repeat' first | (with_reducible first | (apply qbk; intro hkk hke) | (apply qbu; · assumption) | apply qad | apply qa2 | apply qbd | apply qaw | apply qaj | apply qav (b := true) | apply qaa (b := true) | apply qaa (b := false) | apply qar | apply qaq | apply qb4 | (apply qbo; omega) | (apply qbz; omega) | (apply tot_neq_t; omega) | (apply tot_neq_f; omega)) | ((conv => arg 2; arg 1; simp (disch := first | omega | assumption) only [qcb, qbb, Option.map_some, qao, qai, qaf, Nat.zero_add, qbg, ofA3, List.length_append, List.length_cons, List.length_nil, qaz, qbt, app_one, qb9, qb0, ld_sh, qb1, ldc0, ldcS, qca, qb6, qcg, stocS, List.length_map, Nat.reduceAdd, eg_0, eg_S, lay3, hz0, rx_lay, rx_fold, rdl1, rdl3, r51, hch, qch]); (with_reducible first | apply qad | apply qaa (b := false))))
        ((try conv => arg 2; simp (disch := first | omega | assumption) only [qac, qam, qbw, shut_sl, qb2, qbq, qay, qax, own_full, qa5, qae, qah, qas, qbp, qbe, qau, qat, canon_nil, qab, qag, List.take_left']); refine qal ?_)
        rfl
end Go.Vm.Rx

/- What the reference parses a text as. -/
namespace Go.Vm.Rx
open Go Go.Proofs P
set_option maxRecDepth 10000
set_option maxHeartbeats 2000000
theorem readP_at {l : List Word} (hw : ∀ w, w ∈ l → w.t.length ≤ 100000000) : (readP l).2.1 ≤ l.length := by
  unfold readP
  obtain ⟨x, hx⟩ := (ends hw (8 * l.length + 4)).alt 0 0 (by omega) (by omega)
  have hfc := (facts hw (8 * l.length + 4)).alt 0 0 x (by omega) hx
  rw [hx]
  rcases x with ⟨a, c⟩ | ⟨r, j⟩
  · exact hfc.2.1
  · dsimp only
    split
    · exact Nat.le_of_lt ‹_›
    · split <;> exact Nat.zero_le _
theorem sameAd_peek (cs : List D) (A B : St) : sameAd (.peek cs) A B = True := rfl
end Go.Vm.Rx

/- What the reference parses a text as: all of it. -/
namespace Go.Vm.Rx
open Go Go.Proofs P
set_option maxRecDepth 10000
set_option maxHeartbeats 2000000
end Go.Vm.Rx
