/- RxS67, RxS68, RxS73 in one text. -/
import Derived.Test.YtagmpieoalkneaaGreatDoorRxS66
import Derived.Test.YtagmpieoalkneaaGreatDoorRxS72
set_option linter.all false
/- The reference's reader of a line: all of it. -/
namespace Go.Vm.Rx
open Go Go.Proofs P
set_option maxRecDepth 10000
set_option maxHeartbeats 4000000
theorem s30_bad (A : St) (k : Nat) (l : List Word) (hk : k < A.length) (nm pk : Str) (y : D) (i : Nat) (ln cl e : Int) (he : e ≠ 0) :
    LP Tryz.prog rxA 30 [0, 0, 1, 1, 1, 1, 1, 1, 1, 1] [(st A k (irC l 0 0 0 0))] (Env.mk (sp [(0, .ref k 0), (1, .ref A.length 0), (0, .ref (A.length + 1) 0), (0, .int .i64 120), (35, y)] 126) []) (st (A ++ [.cells (ivX [] [] (.sl .full 0 []) 0 0 0), .cells (ivX nm pk (.sl .full 0 []) 0 0 0)]) k (irC l i ln cl e)) =
      some (.ret (encIv ⟨nm, pk, [], 0, 0, 0, .mk 0 [] []⟩), st A k (irC l i ln cl e)) := by
  have hkp := fun L j x y z => stL_Kept (A := A) (k := k) (cs := irC l 0 0 0 0) (cs' := irC l j x y z) (L := L) (irC_shut _ _ _ _ _ _)
  have hmb := fun L i ln cl b s => s70_bad (A ++ L) k l i ln cl b 120 s (lenL hk)
  have hpc : (D.sl .full 0 []).canon = encL 1 (([] : List Str).map .str) := rfl
  have hps : ∀ m, (D.sl .full 0 []).shut m = .sl .full 0 [] := fun m => by simp
  have hfs := fun h c n m => ivX_shut nm pk (.sl .full 0 []) h c n hps m
  have hfc := fun h c n => ivX_can nm pk (.sl .full 0 []) h c n hpc
  have hsA := fun h c n => ivsA nm pk [] [] (.sl .full 0 []) (.sl .full 0 []) h c n 0 0 0 rfl
  refine qa6 ?_
  refine qbj (q30_0 ..) ?_
  unfold n30_0; dsimp only
  (repeat' first | (with_reducible first | (apply qbk; intro hkk hke) | (apply qbu; · assumption) | apply qa2 | apply qaw | apply qaj | apply qaa (b := false) | apply qaq | (apply qb8; omega)) | ((conv => arg 2; arg 1; simp (disch := first | omega | assumption) only [qcb, Option.map_some, qao, qai, qaf, Nat.zero_add, qa4, qbc, qa9, qaz, qah, qas, qan, ld_sh, qb1, ldc0, ldcS, qb6, qcg, eg_0, eg_S, qb5, st_ldo, qcc, irl4, r70, hmb, ivlA, hsA]); (with_reducible apply qad)))
  ((try conv => arg 2; simp (disch := first | omega | assumption) only [qac, qb2, qae, qbp, qab, qag, qak, qbv, hkp, hfs, hfc]); refine qal ?_)
  rfl
theorem s30 (A : St) (k : Nat) (l : List Word) (hl : LineOk l) (hk : k < A.length) : Tot (lineOut A k l (lineP l)) (f30 (.ref k 0) (st A k (irC l 0 0 0 0))) := by
  have hkp := fun L j x y z => stL_Kept (A := A) (k := k) (cs := irC l 0 0 0 0) (cs' := irC l j x y z) (L := L) (irC_shut _ _ _ _ _ _)
  have hmb := fun L i ln cl b s => s70_bad (A ++ L) k l i ln cl b 120 s (lenL hk)
  have hm0 := fun L => s70 (A ++ L) k l hl 0 wInvariant (lenL hk) (by omega)
  have hbad := fun nm pk y i ln cl e he => s30_bad A k l hk nm pk y i ln cl e he
  have hsA0 : layCells true 9 0 [D.str [], .str [], .sl .full 0 [], .int .i64 0, .int .i64 0, .int .i64 0, .int .i64 0, .str [], .sl .full 0 []] (.agg [.str [], .str [], .sl .full 0 [], .int .i64 0, .int .i64 0, .int .i64 0, .int .i64 0, .str [], .sl .full 0 []]) = some (ivX [] [] (.sl .full 0 []) 0 0 0) := rfl
  have hX : [D.str [], .str [], .sl .full 0 [], .int .i64 0, .int .i64 0, .int .i64 0, .int .i64 0, .str [], .sl .full 0 []] = ivX [] [] (.sl .full 0 []) 0 0 0 := rfl
  simp only [Int.natCast_zero, Int.zero_add] at hm0
  unfold f30 n30; dsimp only
  have hgk : ∀ L x, (st (A ++ L) k x)[k]? = some (.cells x) := fun L x => st_k _ (lenL hk)
  have hg1 : ∀ L x, (st (A ++ L) k x)[A.length + 1]? = (A ++ L)[A.length + 1]? := fun L x => st_other (by omega)
  have hm2 : ∀ L, f70 (.ref k 0) (.str wPackets) (.int .i64 120) (st (A ++ L) k (irC l 2 0 0 0)) = some (.ret (.tup []), st (A ++ L) k (if wordAt l 2 = wPackets then irC l 3 0 0 0 else irC l 2 (wordW l 2).line (wordW l 2).col 120)) := fun L => s70 (A ++ L) k l hl 2 wPackets (lenL hk) (by omega)
  have hm4 : ∀ L, f70 (.ref k 0) (.str wFrom) (.int .i64 120) (st (A ++ L) k (irC l 4 0 0 0)) = some (.ret (.tup []), st (A ++ L) k (if wordAt l 4 = wFrom then irC l 5 0 0 0 else irC l 4 (wordW l 4).line (wordW l 4).col 120)) := fun L => s70 (A ++ L) k l hl 4 wFrom (lenL hk) (by omega)
  have hnm : ∀ L, f71 (.ref k 0) (st (A ++ L) k (irC l 1 0 0 0)) = some (.ret (.str (wordAt l 1)), st (A ++ L) k (if isName (wordAt l 1) = true then irC l 2 0 0 0 else irC l 2 (wordW l 1).line (wordW l 1).col 31)) := fun L => s71 (A ++ L) k l hl 1 (lenL hk) (by omega)
  have hw3 : ∀ L, f72 (.ref k 0) (st (A ++ L) k (irC l 3 0 0 0)) = some (.ret (encW (wordW l 3)), st (A ++ L) k (irC l 3 0 0 0)) := fun L => s72 (A ++ L) k l hl 3 0 0 0 (lenL hk) (by omega)
  have hf3 : ∀ L, f32 (.ref k 0) (.int .i64 10) (st (A ++ L) k (irC l 3 0 0 0)) = some (.ret (.tup []), st (A ++ L) k (irC l 3 (wordW l 3).line (wordW l 3).col 10)) := fun L => s32 (A ++ L) k l hl 3 0 0 10 (lenL hk) (by omega)
  have hs3 := hl.at_ 3
  have hcu := fun A => s49 (wordAt l 3) (by omega) A
  have hwt := wordW_t l 3
  have hlen := hl.len
  unfold lineP
  (repeat' first | (with_reducible first | apply qa2 | apply qaw) | ((conv => arg 2; arg 1; simp (disch := first | omega | assumption) only [qai, qaf, Nat.zero_add, qbg, List.length_append, List.length_cons, List.length_nil, qaz, qah, qas, qan, qak, qb9, qb0, qca, qcg, stocS, stL_appr, st_appr, qcc, hsA0, r70, hm0]); (with_reducible apply qad)))
  by_cases h0 : wordAt l 0 = wInvariant
  · rw [if_pos h0, mustP_t h0]
    dsimp only [Except.bind]
    (repeat' first | (with_reducible first | (apply qbk; intro hkk hke) | (apply qbu; · assumption) | apply qa2 | apply qaw | apply qaa (b := true) | apply qar | (apply qbz; omega)) | ((conv => arg 2; arg 1; simp (disch := first | omega | assumption) only [qaf, Nat.add_zero, qaz, qan, qca, qcg, stocS, qb5, qcc, irl4, ivs0, r71, hnm]); (with_reducible apply qad)))
    have h01 := qb3 (l := l) (i := 0) (by rw [h0]; simp)
    by_cases h1 : isName (wordAt l 1) = true
    · rw [if_pos h1]
      unfold nameP
      rw [if_pos h1]
      dsimp only
      (repeat' first | (with_reducible first | apply qa2 | apply qaw) | ((conv => arg 2; arg 1; simp (disch := first | omega | assumption) only [qai, qaf, Nat.zero_add, qah, qas, qan, eg_0, eg_S, r70, hm2]); (with_reducible apply qad)))
      by_cases h2 : wordAt l 2 = wPackets
      · rw [if_pos h2, mustP_t h2]
        dsimp only
        have h21 := qb3 (l := l) (i := 2) (by rw [h2]; simp)
        unfold cubeP
        by_cases h3 : isCube (wordAt l 3) = true
        · rw [if_pos h3]
          rw [h3] at hcu
          dsimp only
          (repeat' first | (with_reducible first | (apply qbk; intro hkk hke) | (apply qbu; · assumption) | apply qa2 | apply qaw | apply qaa (b := true) | apply qaa (b := false) | apply qar | apply qaq | (apply qbz; omega)) | ((conv => arg 2; arg 1; simp (disch := first | omega | assumption) only [qa1, qa0, qai, qaf, Nat.zero_add, un_not, Bool.not_true, qaz, qah, qas, qan, ld_sh, ldc0, ldcS, qca, qcg, stocS, Int.reduceAdd, eg_0, eg_S, qb5, qcj, st_ldo, qcc, irl1, irl4, irs1, ivl1, ivs1, fld0, r70, r72, hw3, hwt, r49, hcu, hm4]); (with_reducible apply qad)))
          by_cases h4 : wordAt l 4 = wFrom
          · rw [if_pos h4, mustP_t h4]
            dsimp only
            have h41 := qb3 (l := l) (i := 4) (by rw [h4]; simp)
            have hlo := fun y => s30_loop A k l hl hk (wordAt l 1) (wordAt l 3) (l.length + 1 - 5) 5 [] (.sl .full 0 []) y (by omega) (by omega) rfl (fun m => by simp) rfl (by simp)
            conv => arg 2; simp only [eg_0, eg_S]
            exact hlo _
          · rw [if_neg h4, mustP_f h4]
            conv => arg 2; simp only [eg_0, eg_S]
            exact ⟨_, hbad (wordAt l 1) (wordAt l 3) _ 4 _ _ 120 (by decide), _, 4, by omega, by decide, rfl⟩
        · rw [if_neg h3]
          simp only [Bool.not_eq_true] at h3
          rw [h3] at hcu
          (repeat' first | (with_reducible first | (apply qbk; intro hkk hke) | (apply qbu; · assumption) | apply qa2 | apply qaw | apply qaa (b := true) | apply qar | (apply qbz; omega)) | ((conv => arg 2; arg 1; simp (disch := first | omega | assumption) only [qa1, qa0, qai, qaf, Nat.zero_add, un_not, Bool.not_false, qaz, qah, qas, qan, ld_sh, ldc0, ldcS, qca, qcg, stocS, Int.reduceAdd, eg_0, eg_S, qb5, qcj, st_ldo, qcc, irl1, irl4, irs1, ivl1, ivs1, fld0, r70, hmb, r72, hw3, hwt, r49, hcu, r32, hf3]); (with_reducible apply qad)))
          conv => arg 2; simp only [eg_0, eg_S]
          exact ⟨_, hbad (wordAt l 1) (wordAt l 3) _ 4 _ _ 10 (by decide), _, 4, by omega, by decide, rfl⟩
      · rw [if_neg h2, mustP_f h2]
        (repeat' first | (with_reducible first | (apply qbk; intro hkk hke) | (apply qbu; · assumption) | apply qaw | apply qaa (b := false) | apply qaq | (apply qb8; omega)) | ((conv => arg 2; arg 1; simp (disch := first | omega | assumption) only [qah, qas, qan, eg_0, eg_S, qb5, irl4, r70, hmb]); (with_reducible apply qad)))
        conv => arg 2; simp only [eg_0, eg_S]
        exact ⟨_, hbad (wordAt l 1) [] _ 2 _ _ 120 (by decide), _, 2, by omega, by decide, rfl⟩
    · rw [if_neg h1]
      unfold nameP
      rw [if_neg h1]
      (repeat' first | (with_reducible first | (apply qbk; intro hkk hke) | (apply qbu; · assumption) | apply qa2 | apply qaw | apply qaa (b := false) | apply qaq | (apply qb8; omega)) | ((conv => arg 2; arg 1; simp (disch := first | omega | assumption) only [qai, qaf, Nat.zero_add, qah, qas, qan, eg_0, eg_S, qb5, irl4, r70, hmb]); (with_reducible apply qad)))
      conv => arg 2; simp only [eg_0, eg_S]
      exact ⟨_, hbad (wordAt l 1) [] _ 2 _ _ 31 (by decide), _, 2, by omega, by decide, rfl⟩
  · rw [if_neg h0, mustP_f h0]
    (repeat' first | (with_reducible first | (apply qbk; intro hkk hke) | (apply qbu; · assumption) | apply qa2 | apply qaw | apply qaa (b := false) | apply qaq | (apply qb8; omega)) | ((conv => arg 2; arg 1; simp (disch := first | omega | assumption) only [qai, qaf, Nat.zero_add, qah, qas, qan, eg_0, eg_S, qb5, irl4, r70, hmb]); (with_reducible apply qad)))
    conv => arg 2; simp only [eg_0, eg_S]
    exact ⟨_, hbad [] [] _ 0 _ _ 120 (by decide), _, 0, by omega, by decide, rfl⟩
end Go.Vm.Rx

/- The reference's reader of texts of invariants. -/
namespace Go.Vm.Rx
open Go Go.Proofs P
set_option maxRecDepth 10000
set_option maxHeartbeats 4000000
theorem ivc0 (v : Iv) : ofCells false (ivC v) 0 1 = some (.str v.nm) := rfl
theorem ivcA (v : Iv) : ofCells true (ivC v) 0 9 = some (encIv v) := rfl
theorem ivcS (v : Iv) (nm pk : Str) (ig : D) (h c n : Int) : layCells true 9 0 (ivX nm pk ig h c n) (encIv v) = some (ivC v) := by
  simp only [layCells, cellIv, Option.bind_some]
  rfl
theorem ivs_canon (l : List Iv) (n : Nat) : (encL n (l.map encIv)).canon = encL n (l.map encIv) := (encL_plain (plainIvs l) n).canon
theorem ivs_shut (l : List Iv) (n m : Nat) : (encL n (l.map encIv)).shut m = encL n (l.map encIv) := (encL_plain (plainIvs l) n).shut m
theorem s31_loop (nm : Str) (l : List Iv) (hl : l.length ≤ 100000000) (A : St) : ∀ (t : List Iv) (i : Nat), l.drop i = t →
    LP Tryz.prog rxA 31 [0, 1, 0, 1] [A] (Env.mk (sp [(0, encL 9 (l.map encIv)), (0, .str nm), (3, .int .i64 (i : Nat))] 13) []) A = some (.ret (.bool (knownP t nm)), A) := by
  intro t
  induction t with
  | nil =>
    intro i ht
    have h1 := drop_len ht
    refine qa6 (qbj (q31_0 ..) ?_)
    unfold n31_0; dsimp only
    (repeat' first | (with_reducible first | apply qaj | apply qaa (b := false) | apply qaq) | ((conv => arg 2; arg 1; simp only [Option.map_some, qao, qa4, qbc, qa9, qbt, List.length_map]); (with_reducible first | apply qad | (apply qbo; omega))))
    ((try conv => arg 2; simp only [qac, qbh, qap, qae, List.take_length, qba, qab, qag]); refine qal ?_)
    rfl
  | cons x t ih =>
    intro i ht
    have h1 := drop_lt ht
    have hx := idx_drop (f := encIv) ht 9 true .i64
    refine qa6 (qbj (q31_0 ..) ?_)
    unfold n31_0; dsimp only
    by_cases he : x.nm = nm
    · have e : knownP (x :: t) nm = true := by simp [knownP, he]
      rw [e]
      (repeat' first | (with_reducible first | apply qa2 | apply qaj | apply qaa (b := true) | apply qar) | ((conv => arg 2; arg 1; simp (disch := first | omega | assumption) only [Option.map_some, qao, fieldAddr_peek, qbs, List.drop_zero, qa4, qbc, qa9, qaz, qbt, List.length_map, hx, cellIv, ivc0]); (with_reducible first | apply qad | (apply qa3; omega) | (apply qcd; first | assumption | with_reducible rfl))))
      ((try conv => arg 2; simp only [qac, qbh, qap, qae, List.take_length, qba, qab, qag]); refine qal ?_)
      rfl
    · have e : knownP (x :: t) nm = knownP t nm := by simp [knownP, he]
      rw [e]
      (repeat' first | (with_reducible first | apply qa2 | apply tp_gk | apply qaa (b := true) | apply qaa (b := false) | apply qar | apply qaq) | ((conv => arg 2; arg 1; simp (disch := first | omega | assumption) only [qa1, qa0, qap, fieldAddr_peek, qbs, List.drop_zero, qa4, qbc, qa9, qaz, qbt, List.length_map, hx, cellIv, ivc0]); (with_reducible first | apply qad | apply qbf | (apply qa3; omega) | (apply qbm; first | assumption | decide | exact List.cons_ne_nil _ _))))
      (refine qbl ?_; (conv => lhs; simp only [qam, qbr, qbw, List.take_length, List.map_nil, qa4, qa9]); rw [ivs_shut]; have := ih (i + 1) (qb7 ht); exact this)
theorem s31 (nm : Str) (l : List Iv) (hl : l.length ≤ 100000000) (A : St) : f31 (encL 9 (l.map encIv)) (.str nm) A = some (.ret (.bool (knownP l nm)), A) := by
  have := s31_loop nm l hl A l 0 rfl
  unfold f31 n31; dsimp only
  refine qa6 ?_
  skip
  (refine qbl ?_; (conv => lhs; simp only []); exact this)
def ivD : Except (Int × Int × Int) (List Iv) → D
  | .ok l => .tup [encL 9 (l.map encIv), .int .i64 0, .int .i64 0, .int .i64 0]
  | .error (a, b, e) => .tup [.sl .sh 0 [], .int .i64 a, .int .i64 b, .int .i64 e]
def ivP : Except (Int × Int) (List (List Word)) → Except (Int × Int × Int) (List Iv)
  | .error (a, b) => .error (a, b, 30)
  | .ok rows => rowsP [] rows
theorem st_mid (A : St) (s0 : Slot) (cs cs' : List D) : st (A ++ [s0, .cells cs']) (A.length + 1) cs = A ++ [s0, .cells cs] := by simp [st]
theorem s9_loop (A : St) (rows : List (List Word)) (hrl : rows.length ≤ 1100001) (hw : ∀ r, r ∈ rows → LineOk r) :
    ∀ (t : List (List Word)) (i : Nat) (acc : List Iv), rows.drop i = t → acc.length ≤ 64 →
    LP Tryz.prog rxA 9 [0, 1, 0, 1, 1, 1, 1] [A] (Env.mk (sp [(6, encL 1 (rows.map encRow)), (3, .sl (.own A.length 0) 9 (acc.map encIv)), (0, .int .i64 (i : Nat))] 81) []) (A ++ [.tok acc.length]) =
      some (.ret (ivD (rowsP acc t)), A) := by
  intro t
  induction t with
  | nil =>
    intro i acc ht hac
    have h1 := drop_len ht
    have hcn : (D.sl .sh 9 (D.shutL A.length (acc.map encIv))).canon = encL 9 (acc.map encIv) := by
      rw [PlainL.shut (plainIvs acc)]; exact canon_sl (plainIvs acc) _ _
    refine qa6 (qbj (q9_0 ..) ?_)
    unfold n9_0; dsimp only
    (repeat' first | (with_reducible first | apply qaj | apply qaa (b := false) | apply qaq) | ((conv => arg 2; arg 1; simp only [Option.map_some, qao, qa4, qbc, qa9, qbt, List.length_map]); (with_reducible first | apply qad | (apply qbo; omega))))
    ((try conv => arg 2; simp (disch := first | omega | assumption) only [qac, qam, shut_sl, qbq, qay, qax, own_new, qa5, qae, qah, qbe, qau, qat, qab, qag, List.take_left', hcn]); refine qal ?_)
    rfl
  | cons x t ih =>
    intro i acc ht hac
    have h1 := drop_lt ht
    have hx := idx_drop (f := encRow) ht 1 false .i64
    have hc : (encRow x).cellsT false = some [encRow x] := rfl
    have hf : ofCells false [encRow x] 0 1 = some (encRow x) := rfl
    have he : encRow x = encL 3 (x.map encW) := rfl
    have hlx : LineOk x := hw x (by rw [← List.take_append_drop i rows, ht]; simp)
    have hla : layCells false 1 0 [D.sl .full 0 [], .int .i64 0, .int .i64 0, .int .i64 0, .int .i64 0] (encL 3 (x.map encW)) = some (irC x 0 0 0 0) := rfl
    have hbx : ∀ B, boxO true (.agg (irC x 0 0 0 0)) B = some (.ref B.length 0, B ++ [.cells (irC x 0 0 0 0)]) := fun B => by
      simp [boxO, D.cellsT, D.agg?, allCells, irC, D.cell?, encL, allocD]
    have hln := s30 (A ++ [.tok acc.length, .cells (irC x 0 0 0 0)]) (A.length + 1) x hlx (by simp)
    rw [st_mid] at hln
    refine qa6 (qbj (q9_0 ..) ?_)
    unfold n9_0; dsimp only
    have hcn : ∀ o, (D.sl o 9 (acc.map encIv)).canon = encL 9 (acc.map encIv) := fun o => canon_sl (plainIvs acc) _ _
    have hli := fun v => ivcS v [] [] (.sl .full 0 []) 0 0 0
    unfold ivX at hli
    have hmd : ∀ cs cs' s2, st (A ++ [.tok acc.length, .cells cs', s2]) (A.length + 1) cs = A ++ [.tok acc.length, .cells cs, s2] := fun cs cs' s2 => by simp [st]
    have hfl := fun v e => s32 (A ++ [.tok acc.length, .cells (irC x 0 0 0 0), .cells (ivC v)]) (A.length + 1) x hlx 0 0 0 e (by simp) (by omega)
    simp only [hmd, Int.natCast_zero] at hfl
    (repeat' first | (with_reducible first | apply qad | apply tp_bnbn | apply qa2 | apply qaa (b := true) | apply qar) | ((conv => arg 2; arg 1; simp (disch := first | omega | assumption) only [qbs, qa8, Nat.zero_add, List.length_append, List.length_cons, List.length_nil, qa4, qbc, qa9, qaz, qbt, cell_encL, app_one, qb9, qb0, List.length_map, hx, he, hla, hbx]); (with_reducible first | apply qad | (apply qa3; omega))))
    conv => arg 2; arg 1; simp (disch := first | omega | assumption) only [qan, r30]
    refine tot_bn hln fun z hz => ?_
    unfold rowsP addP
    cases hp : lineP x with
    | error p =>
      obtain ⟨j, e⟩ := p
      rw [hp] at hz
      obtain ⟨v, i', _, he0, rfl⟩ := hz
      have hlv := hli v
      rw [st_mid]
      (repeat' first | (with_reducible first | (apply qbk; intro hkk hke) | (apply qbu; · assumption) | apply qad | apply qa2 | apply qbd | apply qaw | apply qaj | apply qav (b := false) | apply qaa (b := true) | apply qaa (b := false) | apply qar | apply qaq | apply qce | (apply qb8; omega) | (apply tot_neq_f; omega)) | ((conv => arg 2; arg 1; simp (disch := first | omega | assumption) only [qa7, Option.map_some, qao, qai, qaf, Nat.zero_add, qbg, List.length_append, List.length_cons, List.length_nil, qa4, qbc, qa9, qaz, app_one, qb9, qb0, ld_sh, ldc0, ldcS, qca, qcg, stocS, Nat.reduceAdd, eg_0, eg_S, irl2, irl3, irl4, hlv]); (with_reducible first | apply qad | apply qaa (b := false))))
      ((try conv => arg 2; simp (disch := first | omega | assumption) only [qac, qam, shut_sl, qbq, qay, qax, own_full, qa5, qae, qah, qbe, qau, qat, canon_nil, qab, qag, List.take_left']); refine qal ?_)
      rfl
    | ok v =>
      rw [hp] at hz
      obtain ⟨j, _, rfl⟩ := hz
      have hlv := hli v
      have hkn := fun A => s31 v.nm acc (by omega) A
      rw [st_mid]
      dsimp only [Except.bind]
      by_cases hk : knownP acc v.nm = true
      · rw [if_pos hk]
        rw [hk] at hkn
        (repeat' first | (with_reducible first | (apply qbk; intro hkk hke) | (apply qbu; · assumption) | apply qad | apply qa2 | apply qbd | apply qaw | apply qaj | apply qav (b := true) | apply qav (b := false) | apply qaa (b := true) | apply qaa (b := false) | apply qar | apply qaq | apply qb4 | apply qce | (apply qbz; omega) | (apply qb8; omega) | (apply tot_neq_f; omega)) | ((conv => arg 2; arg 1; simp (disch := first | omega | assumption) only [qbb, qa7, Option.map_some, qao, qai, qaf, Nat.zero_add, Nat.add_zero, qbg, List.length_append, List.length_cons, List.length_nil, qa4, qbc, qa9, qaz, qah, qas, qan, app_one, qb9, qb0, ld_sh, ldc0, ldcS, qca, qcg, stocS, Nat.reduceAdd, eg_0, eg_S, irl2, irl3, irl4, irs1, ivc0, hlv, hcn, r31, hkn, r32, hfl]); (with_reducible first | apply qad | apply qaa (b := true) | apply qaa (b := false))))
        ((try conv => arg 2; simp (disch := first | omega | assumption) only [qac, qam, shut_sl, qbq, qay, qax, own_full, qa5, qae, qah, qbe, qau, qat, canon_nil, qab, qag, List.take_left']); refine qal ?_)
        rfl
      · rw [if_neg hk]
        simp only [Bool.not_eq_true] at hk
        rw [hk] at hkn
        by_cases h64 : 64 ≤ acc.length
        · rw [if_pos h64]
          (repeat' first | (with_reducible first | (apply qbk; intro hkk hke) | (apply qbu; · assumption) | apply qad | apply qa2 | apply qbd | apply qaw | apply qaj | apply qav (b := true) | apply qaa (b := true) | apply qar | apply qaq | apply qb4 | (apply tot_geq_t; omega) | (apply qbz; omega) | (apply tot_neq_f; omega)) | ((conv => arg 2; arg 1; simp (disch := first | omega | assumption) only [qbb, Option.map_some, qao, qai, qaf, lenSl_sl, Nat.zero_add, Nat.add_zero, qbg, List.length_append, List.length_cons, List.length_nil, qa4, qbc, qa9, qaz, qah, qas, qan, app_one, qb9, qb0, ld_sh, ldc0, ldcS, qca, qcg, stocS, List.length_map, Nat.reduceAdd, eg_0, eg_S, irl2, irl3, irl4, irs1, ivc0, hlv, hcn, r31, hkn, r32, hfl]); (with_reducible first | apply qad | apply qaa (b := true) | apply qaa (b := false))))
          ((try conv => arg 2; simp (disch := first | omega | assumption) only [qac, qam, shut_sl, qbq, qay, qax, own_full, qa5, qae, qah, qbe, qau, qat, canon_nil, qab, qag, List.take_left']); refine qal ?_)
          rfl
        · rw [if_neg h64]
          have hsp : sliceParts 9 true 0 [(0, encIv v)] = some [encIv v] := by
            simp only [sliceParts, cellIv, Option.bind_some]
            rfl
          have hap : ∀ c1 c2, appendO 9 128 (.sl (.own A.length 0) 9 (acc.map encIv)) (.sl .full 9 [encIv v]) (A ++ [.tok acc.length, c1, c2]) = some (.sl (.own A.length 0) 9 ((acc ++ [v]).map encIv), A ++ [.tok (acc.length + 1), c1, c2]) := fun c1 c2 => by
            rw [append_own (new := [encIv v]) (by simp [appendNew, esOk]) (by simp) (by simp [roomOk]; omega) (by simp; omega)]
            simp
          have htk : ∀ S, tokO [(0, 9)] (.sl (.own A.length 0) 9 ((acc ++ [v]).map encIv)) S = some (.sl (.own A.length 0) 9 ((acc ++ [v]).map encIv), S) := fun S => rfl
          have hkp : ∀ c1 c2, Kept (A ++ [Slot.tok acc.length]) (A ++ [.tok (acc.length + 1), c1, c2]) ↔ True := fun c1 c2 => iff_true_intro (Kept_tail (by simp) fun i hi => by
            have : i = 0 := by simpa using hi
            subst this
            exact .inr ⟨_, rfl, rfl⟩)
          have htk2 : ∀ c1 c2, (A ++ [Slot.tok (acc.length + 1), c1, c2]).take (A.length + 1) = A ++ [.tok (acc.length + 1)] := fun c1 c2 => take_n1 A [c1, c2] _
          have hrs : ∀ n, (encL 1 (rows.map encRow)).shut n = encL 1 (rows.map encRow) := fun n => (encL_plain (plainRows rows) 1).shut n
          have hps : ∀ n, D.shutL n ((acc ++ [v]).map encIv) = (acc ++ [v]).map encIv := PlainL.shut (plainIvs _)
          have hnx := ih (i + 1) (acc ++ [v]) (qb7 ht) (by simp; omega)
          (repeat' first | (with_reducible first | (apply qbk; intro hkk hke) | (apply qbu; · assumption) | apply qad | apply qa2 | apply qbd | apply qaw | apply tp_gk | apply qav (b := true) | apply qaa (b := true) | apply qaa (b := false) | apply qaq | apply qb4 | (apply tot_geq_f; omega) | (apply qbz; omega) | (apply tot_neq_t; omega)) | ((conv => arg 2; arg 1; simp (disch := first | omega | assumption) only [qbb, qa1, qa0, qai, qaf, lenSl_sl, Nat.zero_add, Nat.add_zero, qbg, List.length_append, List.length_cons, List.length_nil, qa4, qbc, qa9, qaz, qas, app_one, qb9, qb0, ld_sh, ldc0, ldcS, qca, qcg, stocS, List.length_map, Nat.reduceAdd, eg_0, eg_S, irl4, ivc0, ivcA, hlv, hcn, r31, hkn, hsp, hap, htk, hkp]); (with_reducible first | apply qad | apply qbf | apply qaa (b := false))))
          refine qbl ?_
          conv => lhs; simp (disch := first | omega | assumption) only [qam, qbr, shut_sl, own_own, List.map_nil, Nat.zero_add, List.length_append, List.length_cons, List.length_nil, qa4, qbc, qa9, eg_0, eg_S, htk2, hrs, hps]
          simp only [List.length_append, List.length_cons, List.length_nil, Nat.zero_add] at hnx
          exact hnx
theorem s9 (s : Str) (hs : s.length ≤ 1048576) (x : Except (Int × Int) (List (List Word))) (hx : textP s x) (hw : ∀ rows, x = .ok rows → rows.length ≤ 1100001 ∧ ∀ r, r ∈ rows → LineOk r) (A : St) : f9 (.str s) A = some (.ret (ivD (ivP x)), A) := by
  have hln := fun A => s29 s (by omega) x hx A
  unfold f9 n9; dsimp only
  refine qa6 ?_
  rcases x with ⟨p, c⟩ | rows
  · simp only [linesRes] at hln
    (repeat' first | (with_reducible first | apply qaw | apply qaj | apply qaa (b := true) | apply qar | (apply tot_neq_f; omega)) | ((conv => arg 2; arg 1; simp (disch := first | omega | assumption) only [qas, ext0, extS, r29, hln]); (with_reducible apply qad)))
    ((try conv => arg 2; simp only [qac, qam, shut_sl, qbq, qay, qax, own_full, qap, qae, List.take_length, qah, qbe, qau, qat, canon_nil, qab, qag]); refine qal ?_)
    rfl
  · obtain ⟨h1, h2⟩ := hw rows rfl
    simp only [linesRes, List.nil_append] at hln
    have htk := fun A => tok_nil 0 9 0 A (by omega)
    (repeat' first | (with_reducible first | apply qaw | apply qaa (b := false) | apply qaq | (apply tot_neq_t; omega)) | ((conv => arg 2; arg 1; simp (disch := first | omega | assumption) only [qas, ext0, extS, r29, hln, htk]); (with_reducible apply qad)))
    (refine qbl ?_; (conv => lhs; simp only []); have := s9_loop A rows h1 h2 rows 0 [] rfl (by simp); exact this)
theorem s9_long (s : Str) (hs : ¬ s.length ≤ 1048576) (hs2 : s.length < 4611686018427387904) (A : St) : f9 (.str s) A = some (.ret (.tup [.sl .sh 0 [], .int .i64 0, .int .i64 0, .int .i64 2]), A) := by
  have hln := fun A => s29_long s hs hs2 A
  unfold f9 n9; dsimp only
  refine qa6 ?_
  (repeat' first | (with_reducible first | apply qaw | apply qaj | apply qaa (b := true) | apply qar | (apply tot_neq_f; omega)) | ((conv => arg 2; arg 1; simp (disch := first | omega | assumption) only [qas, ext0, extS, r29, hln]); (with_reducible apply qad)))
  ((try conv => arg 2; simp only [qac, qam, shut_sl, qbq, qay, qax, own_full, qap, qae, List.take_length, qah, qbe, qau, qat, canon_nil, qab, qag]); refine qal ?_)
  rfl
end Go.Vm.Rx

/- The program's reader of texts of invariants: is a name there, what is caught. -/
namespace Go.Vm.Rx
open Go Go.Proofs P
set_option maxRecDepth 10000
set_option maxHeartbeats 4000000
theorem Kept5 {A L M : St} {s0 s1 s2 s3 s4 t0 t1 t2 t3 t4 : Slot} (h0 : t0 = s0 ∨ t0.shut (A ++ (s0 :: s1 :: s2 :: s3 :: s4 :: L)).length = t0) (h1 : t1 = s1 ∨ t1.shut (A ++ (s0 :: s1 :: s2 :: s3 :: s4 :: L)).length = t1) (h2 : t2 = s2 ∨ t2.shut (A ++ (s0 :: s1 :: s2 :: s3 :: s4 :: L)).length = t2) (h3 : t3 = s3 ∨ t3.shut (A ++ (s0 :: s1 :: s2 :: s3 :: s4 :: L)).length = t3) (h4 : t4 = s4 ∨ t4.shut (A ++ (s0 :: s1 :: s2 :: s3 :: s4 :: L)).length = t4) :
    Kept (A ++ (s0 :: s1 :: s2 :: s3 :: s4 :: L)) (A ++ (t0 :: t1 :: t2 :: t3 :: t4 :: (L ++ M))) ↔ True := by
  refine iff_true_intro (Kept_tail (by simp) fun i hi => ?_)
  have g : ∀ {s t : Slot}, (t = s ∨ t.shut (A ++ (s0 :: s1 :: s2 :: s3 :: s4 :: L)).length = t) → some t = some s ∨ ∃ x, some t = some x ∧ x.shut (A ++ (s0 :: s1 :: s2 :: s3 :: s4 :: L)).length = x := by
    rintro s t (h | h)
    · exact .inl (by rw [h])
    · exact .inr ⟨_, rfl, h⟩
  match i, hi with
  | 0, _ => exact g h0
  | 1, _ => exact g h1
  | 2, _ => exact g h2
  | 3, _ => exact g h3
  | 4, _ => exact g h4
  | i + 5, hi =>
    left
    simp only [List.length_cons] at hi
    simp only [List.getElem?_cons_succ]
    rw [List.getElem?_append_left (by omega)]
theorem take5 {A L M : St} {t0 t1 t2 t3 t4 : Slot} {n : Nat} (h : n = A.length + (L.length + 1 + 1 + 1 + 1 + 1)) : (A ++ (t0 :: t1 :: t2 :: t3 :: t4 :: (L ++ M))).take n = A ++ (t0 :: t1 :: t2 :: t3 :: t4 :: L) := by
  have e : A ++ (t0 :: t1 :: t2 :: t3 :: t4 :: (L ++ M)) = (A ++ (t0 :: t1 :: t2 :: t3 :: t4 :: L)) ++ M := by simp
  rw [e, List.take_append_of_le_length (by simp; omega), List.take_of_length_le (by simp; omega)]
theorem dc24p (A L : St) (o0 o2 o3 o4 : D) (s1 : Slot) (l : List Word) (i : Nat) (e : Int) : Dcall Tryz.prog rxA (.fn (.func 24) [] [.ref A.length 0, .ref (A.length + 2) 0, .ref (A.length + 3) 0, .ref (A.length + 4) 0]) [] (some (fltD l i e))
      (A ++ (.cells [o0] :: s1 :: .cells [o2] :: .cells [o3] :: .cells [o4] :: L)) =
    some (none, A ++ (.cells [.sl .full 0 []] :: s1 :: .cells [.int .i64 (wordW l i).line] :: .cells [.int .i64 (wordW l i).col] :: .cells [.int .i64 e] :: L)) := by
  rw [rd24p]
  unfold d24p nd24p; dsimp only
  have has : ∀ z, assertV z (fltD l i e) 55 true = some (.tup [.agg [.int .i64 (wordW l i).line, .int .i64 (wordW l i).col, .int .i64 e], .bool true]) := fun _ => rfl
  have hin : binO .neq 1 true (fltD l i e) (.val .nilIface) = some (.bool true) := rfl
  generalize (wordW l i).line = x at *
  generalize (wordW l i).col = y at *
  have hk := fun M => Kept5 (A := A) (L := L) (M := M) (s0 := .cells [o0]) (s1 := s1) (s2 := .cells [o2]) (s3 := .cells [o3]) (s4 := .cells [o4]) (t0 := .cells [.sl .full 0 []]) (t1 := s1) (t2 := .cells [.int .i64 x]) (t3 := .cells [.int .i64 y]) (t4 := .cells [.int .i64 e]) (.inr (by simp)) (.inl rfl) (.inr (by simp)) (.inr (by simp)) (.inr (by simp))
  have hl3 : ∀ a b c, layCells true 3 0 [a, b, c] (.agg [.int .i64 x, .int .i64 y, .int .i64 e]) = some [D.int .i64 x, .int .i64 y, .int .i64 e] := fun a b c => by simp [layCells, D.cellsT, D.agg?, allCells, D.cell?, splice]
  refine qa6 ?_
  (repeat' first | (with_reducible first | apply qa2 | apply tp_gs0 | apply tp_gs1 | apply tp_gk | apply qaa (b := true) | apply qaa (b := false) | apply qar | apply qaq) | ((conv => arg 2; arg 1; simp (disch := first | omega | assumption) only [qaf, qa8, qci, Nat.zero_add, Nat.add_zero, qbg, lay_int, lay_sl, List.length_append, List.length_cons, un_not, Bool.not_true, qaz, app_one, qb0, ld_sh, qb1, ldc0, ldcS, qca, qb6, qcg, stocS, ext0, extS, sameAd_ref, get_sh, List.getElem?_cons_succ, hin, has, hk, hl3]); (with_reducible first | apply qad | apply qbf)))
  have htk : ∀ t0 t1 t2 t3 t4 M, (A ++ (t0 :: t1 :: t2 :: t3 :: t4 :: (L ++ M))).take (A ++ (Slot.cells [o0] :: s1 :: .cells [o2] :: .cells [o3] :: .cells [o4] :: L)).length = A ++ (t0 :: t1 :: t2 :: t3 :: t4 :: L) := fun _ _ _ _ _ _ => take5 (by simp)
  rw [htk]
  exact qal rfl
theorem dc24n (a b c d : D) (S : St) : Dcall Tryz.prog rxA (.fn (.func 24) [] [a, b, c, d]) [] none S = some (none, S) := by
  rw [rd24n]
  unfold d24n nd24n; dsimp only
  have hn : binO .neq 1 true (.val .nilIface) (.val .nilIface) = some (.bool false) := rfl
  refine qa6 ?_
  (repeat' first | (with_reducible first | apply tp_gk | apply qaa (b := false) | apply qaq) | ((conv => arg 2; arg 1; simp (disch := first | omega | assumption) only [qap, hn]); (with_reducible first | apply qad | apply qbf)))
  ((try conv => arg 2; simp only [List.take_length]); refine qal ?_)
  rfl
theorem s27 (v w : Iv) (B : St) (kv : Nat) (h : B[kv]? = some (.cells (ivC v))) : f27 (encIv w) (.ref kv 0) B = some (.ret (.bool (decide (w.nm = v.nm))), B) := by
  have hbx : boxO true (encIv w) B = some (.ref B.length 0, B ++ [.cells (ivC w)]) := by
    simp [boxO, cellIv, allocD]
  have hlt : kv < B.length := (List.getElem?_eq_some_iff.1 h).1
  have hld : loadO false 1 (.ref kv 0) (B ++ [.cells (ivC w)]) = some (.str v.nm) := by rw [ld_old hlt, load_get h, ivc0]
  unfold f27 n27; dsimp only
  refine qa6 ?_
  (repeat' first | (with_reducible first | apply qa2 | apply qaj | (apply tot_seql; all_goals intro hsp)) | ((conv => arg 2; arg 1; simp (disch := first | omega | assumption) only [qaf, Nat.add_zero, qb1, ldc0, hbx, hld, ivc0]); (with_reducible apply qad)))
  all_goals (((try conv => arg 2; simp (disch := first | omega | assumption) only [qac, qbh, qa5, qae, qba, qab, qag, List.take_left']); refine qal ?_); simp [*])
theorem s68_loop (v : Iv) (B : St) (kv : Nat) (h : B[kv]? = some (.cells (ivC v))) (l : List Iv) (hl : l.length ≤ 100000000) : ∀ (t : List Iv) (i : Nat), l.drop i = t →
    Tot (fun r => ∃ n : Int, -1 ≤ n ∧ (0 ≤ n ↔ knownP t v.nm = true) ∧ r = (.ret (.int .i64 n), B)) (LP Tryz.prog rxA 68 [0, 1, 0, 1] [B] (Env.mk (sp [(0, encL 9 (l.map encIv)), (0, .fn (.func 27) [] [.ref kv 0]), (5, .int .i64 (l.length : Nat)), (0, .int .i64 (i : Nat))] 10) []) B) := by
  have hlt : kv < B.length := (List.getElem?_eq_some_iff.1 h).1
  have hfs : (D.fn (.func 27) [] [.ref kv 0]).shut B.length = .fn (.func 27) [] [.ref kv 0] := by simp [D.shut, D.shutL, hlt]
  intro t
  induction t with
  | nil =>
    intro i ht
    have h1 := drop_len ht
    refine qbj (q68_0 ..) ?_
    unfold n68_0; dsimp only
    (repeat' first | (with_reducible first | apply qaj | apply qaa (b := false) | apply qaq) | ((conv => arg 2; arg 1; simp only [Option.map_some, qao, qa4, qbc, qa9]); (with_reducible first | apply qad | (apply qbo; omega))))
    ((try conv => arg 2; simp only [qac, qam, qap, qae, List.take_length, qah, qab, qag]); refine qal ?_)
    exact ⟨-1, by omega, by simp [knownP], rfl⟩
  | cons x t ih =>
    intro i ht
    have h1 := drop_lt ht
    have hx := idx_drop (f := encIv) ht 9 true .i64
    have hcn : (encIv x).canon = encIv x := (plainIv x).canon
    have hrc : (D.ref kv 0).canon = .ref kv 0 := rfl
    have hca : applyD (Run Tryz.prog rxA) (.fn (.func 27) [] [.ref kv 0]) [encIv x] B = some (.ret (.bool (decide (x.nm = v.nm))), B) := by
      rw [app_fn]
      show Run Tryz.prog rxA 27 [encIv x, .ref kv 0] B = _
      rw [r27, hcn, hrc]
      exact s27 v x B kv h
    refine qbj (q68_0 ..) ?_
    unfold n68_0; dsimp only
    by_cases he : x.nm = v.nm
    · rw [decide_eq_true he] at hca
      (repeat' first | (with_reducible first | apply qa2 | apply qaw | apply qaj | apply qaa (b := true) | apply qar) | ((conv => arg 2; arg 1; simp (disch := first | omega | assumption) only [Option.map_some, qao, qbs, qa4, qbc, qa9, qaz, hx, cellIv, ivcA, hca]); (with_reducible first | apply qad | (apply qa3; omega))))
      ((try conv => arg 2; simp only [qac, qam, qap, qae, List.take_length, qah, qab, qag]); refine qal ?_)
      exact ⟨(i : Int), by omega, by simp [knownP, he], rfl⟩
    · rw [decide_eq_false he] at hca
      have hih := ih (i + 1) (qb7 ht)
      have e : knownP (x :: t) v.nm = knownP t v.nm := by simp [knownP, he]
      rw [← e] at hih
      (repeat' first | (with_reducible first | apply qa2 | apply qaw | apply tp_gk | apply qaa (b := true) | apply qaa (b := false) | apply qar | apply qaq) | ((conv => arg 2; arg 1; simp (disch := first | omega | assumption) only [qa1, qa0, qap, qbs, qa4, qbc, qa9, qaz, hx, cellIv, ivcA, hca]); (with_reducible first | apply qad | apply qbf | (apply qa3; omega))))
      conv => arg 2; simp (disch := first | omega | assumption) only [qam, qbr, List.take_length, List.map_nil, qa4, qbc, qa9, ivs_shut, hfs]
      exact hih
theorem s26 (v : Iv) (B : St) (kv : Nat) (h : B[kv]? = some (.cells (ivC v))) (l : List Iv) (hl : l.length ≤ 100000000) :
    f26 (encL 9 (l.map encIv)) (.fn (.func 27) [] [.ref kv 0]) B = some (.ret (.bool (knownP l v.nm)), B) := by
  have hlo := s68_loop v B kv h l hl l 0 rfl
  have hfc : (D.fn (.func 27) [] [.ref kv 0]).canon = .fn (.func 27) [] [.ref kv 0] := rfl
  unfold f26 n26; dsimp only
  refine qa6 ?_
  conv => arg 2; arg 1; simp (disch := first | omega | assumption) only [r68, ivs_canon, hfc]
  have h2 : Tot (fun r => ∃ n : Int, -1 ≤ n ∧ (0 ≤ n ↔ knownP l v.nm = true) ∧ r = (.ret (.int .i64 n), B)) (f68 (encL 9 (l.map encIv)) (.fn (.func 27) [] [.ref kv 0]) B) := by
    unfold f68 n68; dsimp only
    (repeat' first | ((conv => arg 2; arg 1; simp only [qbt, List.length_map]); (with_reducible apply qad)))
    conv => arg 2; simp only []
    exact hlo
  refine tot_bn h2 fun z hz => ?_
  obtain ⟨n, hn, hk, rfl⟩ := hz
  cases hq : knownP l v.nm with
  | true =>
    have := hk.2 hq
    (repeat' first | (with_reducible first | apply qaw | apply qaj | (apply tot_geq_t; omega)))
    ((try conv => arg 2; simp only [qac, qbh, qap, qae, List.take_length, qba, qab, qag]); refine qal ?_)
    rfl
  | false =>
    have : ¬ 0 ≤ n := fun h => by have := hk.1 h; rw [hq] at this; cases this
    (repeat' first | (with_reducible first | apply qaw | apply qaj | (apply tot_geq_f; omega)))
    ((try conv => arg 2; simp only [qac, qbh, qap, qae, List.take_length, qba, qab, qag]); refine qal ?_)
    rfl
end Go.Vm.Rx
