/- RxS63, RxS64 in one text. -/
import Derived.Test.YtagmpieoalkneaaGreatDoorRxS62
set_option linter.all false
/- The reference's reader of a line: its small functions. -/
namespace Go.Vm.Rx
open Go Go.Proofs P
set_option maxRecDepth 10000
set_option maxHeartbeats 2000000
def irC (l : List Word) (i ln cl b : Int) : List D := [encL 3 (l.map encW), .int .i64 i, .int .i64 ln, .int .i64 cl, .int .i64 b]
theorem irC_shut (l : List Word) (i ln cl b : Int) (n : Nat) : D.shutL n (irC l i ln cl b) = irC l i ln cl b := by simp [irC, ws_shut]
section
variable (l : List Word) (i ln cl b x : Int)
theorem irl0 : ofCells false (irC l i ln cl b) 0 1 = some (encL 3 (l.map encW)) := rfl
theorem irl1 : ofCells false (irC l i ln cl b) 1 1 = some (.int .i64 i) := rfl
theorem irl2 : ofCells false (irC l i ln cl b) 2 1 = some (.int .i64 ln) := rfl
theorem irl3 : ofCells false (irC l i ln cl b) 3 1 = some (.int .i64 cl) := rfl
theorem irl4 : ofCells false (irC l i ln cl b) 4 1 = some (.int .i64 b) := rfl
theorem irs1 : layCells false 1 1 (irC l i ln cl b) (.int .i64 x) = some (irC l x ln cl b) := rfl
theorem irs2 : layCells false 1 2 (irC l i ln cl b) (.int .i64 x) = some (irC l i x cl b) := rfl
theorem irs3 : layCells false 1 3 (irC l i ln cl b) (.int .i64 x) = some (irC l i ln x b) := rfl
theorem irs4 : layCells false 1 4 (irC l i ln cl b) (.int .i64 x) = some (irC l i ln cl x) := rfl
end
theorem hlwW (w : Word) (a b c : D) : layCells true 3 0 [a, b, c] (encW w) = some [.str w.t, .int .i64 w.line, .int .i64 w.col] := rfl
theorem s72 (A : St) (k : Nat) (l : List Word) (hl : LineOk l) (i : Nat) (ln cl b : Int) (hk : k < A.length) (hi : i ≤ 200000000) :
    f72 (.ref k 0) (st A k (irC l i ln cl b)) = some (.ret (encW (wordW l i)), st A k (irC l i ln cl b)) := by
  have hlen := hl.len
  have hne : 0 < l.length := by cases l with | nil => exact absurd rfl hl.ne | cons => simp
  have hix : ∀ j : Nat, (h : j < l.length) → indexAddrO 3 true (encL 3 (l.map encW)) (.int .i64 (j : Int)) = some (.peek (cellsW l[j])) := fun j h => by
    rw [idx_map h, cellW]; rfl
  have hkp := fun L => stL_Kept (A := A) (k := k) (cs := irC l i ln cl b) (cs' := irC l i ln cl b) (L := L) (irC_shut _ _ _ _ _ _)
  have hgk : ∀ L, (st (A ++ L) k (irC l i ln cl b))[k]? = some (.cells (irC l i ln cl b)) := fun L => st_k _ (lenL hk)
  unfold f72 n72; dsimp only
  refine qa6 ?_
  have hcw : ∀ w : Word, ofCells true [D.str w.t, .int .i64 w.line, .int .i64 w.col] 0 3 = some (encW w) := fun w => rfl
  have hl1 : ∀ a b c x, layCells false 1 1 [a, b, c] (D.int .i64 x) = some [a, .int .i64 x, c] := fun _ _ _ _ => rfl
  have hl2 : ∀ a b c x, layCells false 1 2 [a, b, c] (D.int .i64 x) = some [a, b, .int .i64 x] := fun _ _ _ _ => rfl
  by_cases h : i < l.length
  · have hx := hix i h
    rw [wordW_lt h]
    generalize l[i] = w at hx
    (repeat' first | (with_reducible first | apply qad | apply tp_bnbn | apply qa2 | apply qaj | apply qaa (b := true) | apply qar | (apply qa3; omega)) | ((conv => arg 2; arg 1; simp (disch := first | omega | assumption) only [qai, qaf, qbs, Nat.zero_add, Nat.add_zero, qbg, qaz, qbt, qak, qb1, ldc0, qb6, qcg, List.length_map, qb5, st_appr, st_ldo, qcc, irl0, irl1, hx, cellsW, hlwW, hcw]); (with_reducible apply qad)))
    ((try conv => arg 2; simp (disch := first | omega | assumption) only [qac, qae, qab, qag, qak, qbv, hkp]); refine qal ?_)
    rfl
  · have h8 : l.length - 1 < l.length := by omega
    have hx := hix (l.length - 1) h8
    have hi1 : ((l.length - 1 : Nat) : Int) = (l.length : Int) - 1 := by omega
    rw [wordW_ge h h8]
    have hwd := hl.wd _ (List.getElem_mem h8)
    generalize l[l.length - 1] = w at hx hwd
    rw [hi1] at hx
    obtain ⟨⟨g1, g2⟩, g3, g4, g5, g6⟩ := hwd
    have hlw3 : ∀ a b c x y, layCells true 3 0 [a, b, c] (.agg [.str [], .int .i64 x, .int .i64 y]) = some [.str [], .int .i64 x, .int .i64 y] := fun a b c x y => rfl
    have hcw3 : ∀ x y, ofCells true [D.str [], .int .i64 x, .int .i64 y] 0 3 = some (.agg [.str [], .int .i64 x, .int .i64 y]) := fun x y => rfl
    (repeat' first | (with_reducible first | apply qad | apply tp_bnbn | apply qa2 | apply tp_gs0 | apply tp_gs1 | apply qaj | apply qaa (b := false) | apply qaq | (apply qbo; omega)) | ((conv => arg 2; arg 1; simp (disch := first | omega | assumption) only [qa1, binO_sub, qa0, qai, qaf, qbx, qbs, qa8, qci, Nat.zero_add, Nat.add_zero, qbg, List.length_append, List.length_cons, List.length_nil, qaz, qbt, qak, qb9, qb0, ld_sh, qb1, ldc0, ldcS, qca, qb6, qcg, stocS, List.length_map, sameAd_ref, qb5, stL_appr, st_appr, st_ldo, qcc, irl0, irl1, hgk, sameAd_peek, hx, cellsW, hlwW, hcw, hl1, hl2, hlw3, hcw3]); (with_reducible first | apply qad | apply qbf)))
    ((try conv => arg 2; simp (disch := first | omega | assumption) only [qac, qam, qbw, qb2, qay, qax, qae, qah, qas, qbp, qau, qat, qab, qag, qak, qbv, hkp]); refine qal ?_)
    rfl
theorem s32 (A : St) (k : Nat) (l : List Word) (hl : LineOk l) (i : Nat) (ln cl e : Int) (hk : k < A.length) (hi : i ≤ 200000000) :
    f32 (.ref k 0) (.int .i64 e) (st A k (irC l i ln cl 0)) = some (.ret (.tup []), st A k (irC l i (wordW l i).line (wordW l i).col e)) := by
  have hwd := s72 A k l hl i ln cl 0 hk hi
  generalize wordW l i = w at hwd
  have hkp := fun L x y z => stL_Kept (A := A) (k := k) (cs := irC l i ln cl 0) (cs' := irC l i x y z) (L := L) (irC_shut _ _ _ _ _ _)
  have hgk : ∀ L x y z, (st (A ++ L) k (irC l i x y z))[A.length]? = (A ++ L)[A.length]? := fun L x y z => st_other (by omega)
  unfold f32 n32; dsimp only
  refine qa6 ?_
  (repeat' first | (with_reducible first | (apply qbk; intro hkk hke) | (apply qbu; · assumption) | apply qa2 | apply qaw | apply tp_gs0 | apply tp_gs1 | apply qaj | apply qaa (b := true) | apply qar | (apply qbz; omega)) | ((conv => arg 2; arg 1; simp (disch := first | omega | assumption) only [Option.map_some, qao, qai, qaf, qa8, qci, Nat.zero_add, qbg, qaz, qan, qak, st_load, qb1, ldc0, qb6, qcg, sameAd_ref, qcj, st_appr, st_ldo, qcc, irl4, irs2, irs3, irs4, r72, hwd, hlwW, hgk]); (with_reducible first | apply qad | apply qbf)))
  ((try conv => arg 2; simp (disch := first | omega | assumption) only [qac, qbq, qay, qae, qbe, qau, qab, qag, qak, qbv, hkp]); refine qal ?_)
  rfl
theorem s70 (A : St) (k : Nat) (l : List Word) (hl : LineOk l) (i : Nat) (s : Str) (hk : k < A.length) (hi : i ≤ 100000000) :
    f70 (.ref k 0) (.str s) (.int .i64 120) (st A k (irC l i 0 0 0)) = some (.ret (.tup []), st A k (if wordAt l i = s then irC l ((i : Int) + 1) 0 0 0 else irC l i (wordW l i).line (wordW l i).col 120)) := by
  have hwd := s72 A k l hl i 0 0 0 hk (by omega)
  have hst := s32 A k l hl i 0 0 120 hk (by omega)
  have hkp := fun j x y z => stS_Kept (A := A) (k := k) (cs := irC l i 0 0 0) (cs' := irC l j x y z) (irC_shut _ _ _ _ _ _)
  unfold f70 n70; dsimp only
  refine qa6 ?_
  by_cases h : wordAt l i = s
  · rw [if_pos h]
    rw [← wordW_t] at h
    (repeat' first | (with_reducible first | apply qa2 | apply qaw | apply qaj | apply qaa (b := false) | apply qaq | (apply tot_neq_t; omega) | (apply tot_sneq_t; first | assumption | with_reducible rfl)) | ((conv => arg 2; arg 1; simp (disch := first | omega | assumption) only [qa1, qa0, qai, qaf, Nat.zero_add, qaz, qan, st_load, st_store, irl4, r72, hwd, fld0, h, irl1, irs1]); (with_reducible apply qad)))
    ((try conv => arg 2; simp (disch := first | omega | assumption) only [qac, qbq, qay, qae, qbe, qau, qab, qag, qak, st_take, hkp]); refine qal ?_)
    rfl
  · rw [if_neg h]
    rw [← wordW_t] at h
    (repeat' first | (with_reducible first | apply qa2 | apply qaw | apply qaj | apply qaa (b := true) | apply qaa (b := false) | apply qar | apply qaq | (apply tot_neq_t; omega) | (apply tot_sneq_f; first | assumption | decide | exact List.cons_ne_nil _ _)) | ((conv => arg 2; arg 1; simp (disch := first | omega | assumption) only [qai, qaf, Nat.zero_add, qah, qan, st_load, irl4, r72, hwd, fld0, r32, hst]); (with_reducible apply qad)))
    ((try conv => arg 2; simp (disch := first | omega | assumption) only [qac, qbq, qay, qae, qbe, qau, qab, qag, qak, st_take, hkp]); refine qal ?_)
    rfl
theorem s70_bad (A : St) (k : Nat) (l : List Word) (i ln cl b e : Int) (s : Str) (hk : k < A.length) (hb : b ≠ 0) :
    f70 (.ref k 0) (.str s) (.int .i64 e) (st A k (irC l i ln cl b)) = some (.ret (.tup []), st A k (irC l i ln cl b)) := by
  have hkp := stS_Kept (A := A) (k := k) (cs := irC l i ln cl b) (cs' := irC l i ln cl b) (irC_shut _ _ _ _ _ _)
  unfold f70 n70; dsimp only
  refine qa6 ?_
  (repeat' first | (with_reducible first | apply qa2 | apply qaj | apply qaa (b := true) | apply qar | (apply tot_neq_f; omega)) | ((conv => arg 2; arg 1; simp (disch := first | omega | assumption) only [qai, qaf, Nat.zero_add, st_load, irl4]); (with_reducible apply qad)))
  ((try conv => arg 2; simp only [qac, qbq, qay, qap, qae, qbe, qau, qab, qag, qak, st_take]); refine qal ?_)
  rfl
theorem s71 (A : St) (k : Nat) (l : List Word) (hl : LineOk l) (i : Nat) (hk : k < A.length) (hi : i ≤ 100000000) :
    f71 (.ref k 0) (st A k (irC l i 0 0 0)) = some (.ret (.str (wordAt l i)), st A k (if isName (wordAt l i) = true then irC l ((i : Int) + 1) 0 0 0 else irC l ((i : Int) + 1) (wordW l i).line (wordW l i).col 31)) := by
  have hwd := s72 A k l hl i 0 0 0 hk (by omega)
  have hst := s32 A k l hl i 0 0 31 hk (by omega)
  have hsh := hl.at_ i
  have hnm := fun A => s48 (wordAt l i) (by omega) A
  have hf : fieldO false 0 1 (encW (wordW l i)) = some (.str (wordAt l i)) := by rw [fld0, wordW_t]
  have hkp := fun j x y z => stS_Kept (A := A) (k := k) (cs := irC l i 0 0 0) (cs' := irC l j x y z) (irC_shut _ _ _ _ _ _)
  unfold f71 n71; dsimp only
  refine qa6 ?_
  cases h : isName (wordAt l i)
  · rw [h] at hnm
    rw [if_neg (by decide)]
    (repeat' first | (with_reducible first | (apply qbk; intro hkk hke) | (apply qbu; · assumption) | apply qad | apply qa2 | apply qbd | apply qaw | apply qaj | apply qav (b := true) | apply qaa (b := true) | apply qar | apply qb4 | (apply qbz; omega)) | ((conv => arg 2; arg 1; simp (disch := first | omega | assumption) only [qbb, Option.map_some, qa1, qa0, qao, qai, qaf, Nat.zero_add, un_not, Bool.not_false, qaz, qah, qas, qan, st_load, st_store, eg_0, eg_S, irl4, r72, hwd, hf, r48, hnm, r32, hst, irl1, irs1]); (with_reducible first | apply qad | apply qaa (b := true))))
    ((try conv => arg 2; simp (disch := first | omega | assumption) only [qac, qbw, qae, qas, qab, qag, qak, st_take, hkp]); refine qal ?_)
    rfl
  · rw [h] at hnm
    rw [if_pos rfl]
    (repeat' first | (with_reducible first | (apply qbk; intro hkk hke) | (apply qbu; · assumption) | apply qad | apply qa2 | apply qbd | apply qaw | apply qaj | apply qav (b := true) | apply qaa (b := true) | apply qaq | apply qb4 | (apply qbz; omega)) | ((conv => arg 2; arg 1; simp (disch := first | omega | assumption) only [qbb, Option.map_some, qa1, qa0, qao, qai, qaf, Nat.zero_add, un_not, Bool.not_true, qaz, qas, qan, st_load, st_store, eg_0, eg_S, irl4, r72, hwd, hf, r48, hnm, irl1, irs1]); (with_reducible first | apply qad | apply qaa (b := false))))
    ((try conv => arg 2; simp (disch := first | omega | assumption) only [qac, qbw, qae, qas, qab, qag, qak, st_take, hkp]); refine qal ?_)
    rfl
def rnumN (l : List Word) (i : Nat) : Int := (numP (wordAt l i)).getD 0
def rnumC (l : List Word) (most : Int) (i : Nat) : List D := match numberP l most i with
  | .ok x => irC l ((i : Int) + 1) 0 0 0
  | .error (_, e) => irC l ((i : Int) + 1) (wordW l i).line (wordW l i).col e
theorem s74 (A : St) (k : Nat) (l : List Word) (hl : LineOk l) (i : Nat) (most : Int) (hk : k < A.length) (hi : i ≤ 100000000) :
    f74 (.ref k 0) (.int .i64 most) (st A k (irC l i 0 0 0)) = some (.ret (.int .i64 (rnumN l i)), st A k (rnumC l most i)) := by
  have hwd := s72 A k l hl i 0 0 0 hk (by omega)
  have hst := fun e => s32 A k l hl i 0 0 e hk (by omega)
  have hsh := hl.at_ i
  have hnm := fun A => s116 (wordAt l i) (by omega) A
  have hf : fieldO false 0 1 (encW (wordW l i)) = some (.str (wordAt l i)) := by rw [fld0, wordW_t]
  have hkp := fun j x y z => stS_Kept (A := A) (k := k) (cs := irC l i 0 0 0) (cs' := irC l j x y z) (irC_shut _ _ _ _ _ _)
  unfold f74 n74 rnumC rnumN numberP; dsimp only
  refine qa6 ?_
  cases h : numP (wordAt l i) with
  | none =>
    rw [h] at hnm
    unfold numD at hnm
    (repeat' first | (with_reducible first | (apply qbk; intro hkk hke) | (apply qbu; · assumption) | apply qad | apply qa2 | apply qbd | apply qaw | apply qaj | apply qav (b := true) | apply qav (b := false) | apply qaa (b := true) | apply qaa (b := false) | apply qar | apply qaq | apply qb4 | apply qce | (apply qbz; omega) | (apply qb8; omega) | (apply tot_neq_f; omega)) | ((conv => arg 2; arg 1; simp (disch := first | omega | assumption) only [qbb, qa7, Option.map_some, qa1, qa0, qao, qai, qaf, Nat.zero_add, qaz, qah, qas, qan, st_load, st_store, ext0, extS, eg_0, eg_S, irl4, r72, hwd, hf, r116, hnm, r32, hst, irl1, irs1]); (with_reducible first | apply qad | apply qaa (b := true) | apply qaa (b := false))))
    ((try conv => arg 2; simp (disch := first | omega | assumption) only [qac, qam, qae, qah, qab, qag, qak, st_take, hkp]); refine qal ?_)
    rfl
  | some n =>
    rw [h] at hnm
    unfold numD at hnm
    dsimp only at hnm ⊢
    by_cases h2 : most < n
    · rw [if_pos h2]
      (repeat' first | (with_reducible first | (apply qbk; intro hkk hke) | (apply qbu; · assumption) | apply qad | apply qa2 | apply qbd | apply qaw | apply qaj | apply qav (b := true) | apply qaa (b := true) | apply qar | apply qaq | apply qb4 | (apply qbz; omega) | (apply tot_neq_t; omega)) | ((conv => arg 2; arg 1; simp (disch := first | omega | assumption) only [qbb, Option.map_some, qa1, qa0, qao, qai, qaf, Nat.zero_add, qaz, qah, qas, qan, st_load, st_store, ext0, extS, eg_0, eg_S, irl4, r72, hwd, hf, r116, hnm, r32, hst, irl1, irs1]); (with_reducible first | apply qad | apply qaa (b := true) | apply qaa (b := false) | (apply tot_gtr_t; omega))))
      ((try conv => arg 2; simp (disch := first | omega | assumption) only [qac, qam, qae, qah, qab, qag, qak, st_take, hkp]); refine qal ?_)
      rfl
    · rw [if_neg h2]
      (repeat' first | (with_reducible first | (apply qbk; intro hkk hke) | (apply qbu; · assumption) | apply qad | apply qa2 | apply qbd | apply qaw | apply qaj | apply qav (b := true) | apply qaa (b := true) | apply qaq | apply qb4 | (apply qbz; omega) | (apply tot_neq_t; omega)) | ((conv => arg 2; arg 1; simp (disch := first | omega | assumption) only [qbb, Option.map_some, qa1, qa0, qao, qai, qaf, Nat.zero_add, qaz, qas, qan, st_load, st_store, ext0, extS, eg_0, eg_S, irl4, r72, hwd, hf, r116, hnm, irl1, irs1]); (with_reducible first | apply qad | apply qaa (b := false) | (apply tot_gtr_f; omega))))
      ((try conv => arg 2; simp (disch := first | omega | assumption) only [qac, qam, qae, qah, qab, qag, qak, st_take, hkp]); refine qal ?_)
      rfl
end Go.Vm.Rx

/- The reference's reader of a line: names that rise, a sign. -/
namespace Go.Vm.Rx
open Go Go.Proofs P
set_option maxRecDepth 10000
set_option maxHeartbeats 2000000
def ivC (v : Iv) : List D := [.str v.nm, .str v.pk, encL 1 (v.ing.map .str), .int .i64 v.hops, .int .i64 v.cmp, .int .i64 v.cnt, .int .i64 v.path.op, .str v.path.nm, encL 3 (v.path.ks.map encRx)]
def encIv (v : Iv) : D := .agg (ivC v)
theorem plainStr (l : List Str) : PlainL (l.map .str) := PlainL.map (fun s => ⟨fun _ => rfl, rfl⟩) l
theorem str_canon (l : List Str) (n : Nat) : (encL n (l.map .str)).canon = encL n (l.map .str) := (encL_plain (plainStr l) n).canon
theorem str_shut (l : List Str) (n m : Nat) : (encL n (l.map .str)).shut m = encL n (l.map .str) := (encL_plain (plainStr l) n).shut m
theorem plainIv (v : Iv) : Plain (encIv v) := by
  refine ⟨fun n => ?_, ?_⟩
  · simp [encIv, ivC, str_shut, rxs_shut, D.shut]
  · simp [encIv, ivC, D.canon, D.canonL, str_canon, rxs_canon]
theorem plainIvs (l : List Iv) : PlainL (l.map encIv) := PlainL.map plainIv l
theorem cellIv (v : Iv) : (encIv v).cellsT true = some (ivC v) := by
  have : allCells (ivC v) = true := by simp [ivC, allCells, D.cell?, encL]
  simp [encIv, D.cellsT, D.agg?, this]
theorem slss (n : Nat) (b : Bool) (x s : Str) : binO .lss n b (.str x) (.str s) = some (.bool (decide (x < s))) := by
  show some (D.bool (Op.bytesLess x s)) = _
  rw [Go.Proofs.bytesLess_eq]
theorem to_enc (l : List Str) (i : Nat) (h : i ≤ l.length) : ∃ y, sliceSlO 1 (encL 1 (l.map .str)) none (some (.int .i64 (i : Int))) none = some y ∧ appendNew 1 y = some ((l.take i).map .str) := by
  cases l with
  | nil =>
    have : i = 0 := by simpa using h
    subst this
    exact ⟨_, rfl, rfl⟩
  | cons x l =>
    simp only [List.length_cons] at h
    refine ⟨.sl (sliceOwn .sh (l.length + 1) 0 i none) 1 (((x :: l).take i).map .str), ?_, ?_⟩
    · have e : esOk .sh 1 1 ((x :: l).map D.str) = true := rfl
      simp [sliceSlO, encL, optInt, D.int?, sliceSl, esOk, List.map_take]
      omega
    · simp [appendNew, esOk]
theorem encL_cons {α : Type} (f : α → D) (n : Nat) (x : α) (l : List α) : encL n ((x :: l).map f) = .sl .sh n ((x :: l).map f) := rfl
theorem from_enc {α : Type} (f : α → D) (n : Nat) (hn : n ≠ 0) (hp : ∀ l : List α, PlainL (l.map f)) (l : List α) (i : Nat) (h : i ≤ l.length) : ∃ y, sliceSlO n (encL n (l.map f)) (some (.int .i64 (i : Int))) none none = some y ∧ appendNew n y = some ((l.drop i).map f) ∧ y.canon = encL n ((l.drop i).map f) := by
  cases l with
  | nil =>
    have : i = 0 := by simpa using h
    subst this
    refine ⟨.sl .sh n [], ?_, ?_, rfl⟩
    · have e : esOk .sh 0 n [] = true := by simp [esOk, Own.isOwn]
      simp only [List.map_nil, encL, sliceSlO, optInt, D.int?, Option.map_some, Option.bind_some, e, hn, ne_eq, not_false_eq_true, and_self, if_true]
      rfl
    · have e : esOk .sh n n [] = true := by simp [esOk, Own.isOwn]
      simp only [List.drop_nil, List.map_nil, appendNew, e]
      rfl
  | cons x l =>
    simp only [List.length_cons] at h
    refine ⟨.sl .sh n (((x :: l).drop i).map f), ?_, ?_, canon_sl (hp _) _ _⟩
    · have e : esOk .sh n n ((x :: l).map f) = true := by simp [esOk]
      rw [encL_cons]
      simp only [sliceSlO, optInt, D.int?, Option.map_some, Option.bind_some, e, hn, ne_eq, not_false_eq_true, and_self, if_true, sliceSl, Option.getD_none, Option.getD_some, List.length_map, List.length_cons]
      rw [if_pos ⟨by omega, by omega, by omega, by omega, by simp⟩]
      simp only [sliceOwn, Int.toNat_natCast, List.map_drop]
      rw [List.take_of_length_le (by simp)]
      simp
    · simp [appendNew, esOk]
theorem s73_loop (s : Str) (l : List Str) (hl : l.length ≤ 100000) (A : St) : ∀ (t : List Str) (i : Nat), l.drop i = t → i + posS s t = posS s l →
    LP Tryz.prog rxA 73 [0, 0, 1, 1] [A] (Env.mk (sp [(0, encL 1 (l.map .str)), (0, .str s), (3, .int .i64 (i : Nat))] 42) []) A = some (.ret (encL 1 ((putS s l).map .str)), A) := by
  have hput := putS_eq s l
  have hlm : ((l.map D.str).length : Int) = (l.length : Int) := by simp
  have hins : ∀ i : Nat, i ≤ l.length → putS s l = l.take i ++ s :: l.drop i → ∀ (y y2 : D), appendNew 1 y = some ((l.take i).map .str) → appendNew 1 y2 = some ((l.drop i).map .str) →
      ∃ b1 d1 A1, appendO 1 16 (.sl .full 1 []) y A = some (d1, A1) ∧ ∃ d2 A2, appendO 1 16 d1 (.sl .full 1 [.str s]) A1 = some (d2, A2) ∧ ∃ d3 A3, appendO 1 16 d2 y2 A2 = some (d3, A3) ∧ (∀ m, (d3.shut m).canon = encL 1 ((putS s l).map .str)) ∧ (Kept A A3 ↔ True) ∧ A3.take A.length = A ∧ b1 = 0 := by
    intro i hi he y y2 hy hy2
    have h1 := app_acc (A := A) (b := some 1) (n := 1) (w := 16) (ds := []) (AccOk.full 1 []) hy (by simp only [List.length_nil, List.length_map, List.length_take]; omega) (by omega)
    have a1 : AccOk (accNext (some 1) 1 ((l.take i).map D.str)) 1 ([] ++ (l.take i).map D.str) := (AccOk.full 1 []).next _
    have h2 := app_acc1 (A := A) (w := 16) (d := .str s) a1 (by simp only [List.nil_append, List.length_map, List.length_take]; omega) (by omega)
    have h3 := app_acc (A := A) (n := 1) (w := 16) (.own 1 ([] ++ (l.take i).map D.str ++ [.str s])) hy2 (by simp only [List.nil_append, List.length_append, List.length_map, List.length_take, List.length_drop, List.length_cons, List.length_nil]; omega) (by omega)
    have e : [] ++ (l.take i).map D.str ++ [D.str s] ++ (l.drop i).map D.str = (putS s l).map .str := by rw [he]; simp
    rw [e] at h3
    refine ⟨0, _, _, h1, _, _, h2, _, _, h3, fun m => acc_shut (.own 1 _) (plainStr _), ?_, ?_, rfl⟩
    · exact accA_Kept _ _ _
    · exact accA_take _ _ _
  have hsp0 : sliceParts 1 false 0 [] = some [] := rfl
  have hsh := str_shut l 1
  have hcn := str_canon l 1
  intro t
  induction t with
  | nil =>
    intro i ht hi
    have h1 := drop_len ht
    have hle := posS_le s l
    simp only [posS, Nat.add_zero] at hi
    have hil : i = l.length := by omega
    rw [if_neg (by omega), ← hi] at hput
    obtain ⟨y, hy, hy1⟩ := to_enc l i (by omega)
    obtain ⟨y2, hz, hz1, _⟩ := from_enc .str 1 (by omega) plainStr l i (by omega)
    obtain ⟨b1, d1, A1, g1, d2, A2, g2, d3, A3, g3, g4, g5, g6, _⟩ := hins i (by omega) hput y y2 hy1 hz1
    refine qa6 (qbj (q73_0 ..) ?_)
    unfold n73_0; dsimp only
    (repeat' first | (with_reducible first | apply qad | apply qa2 | apply qbd | apply qaj | apply qav (b := false) | apply qaa (b := false) | apply qaq | apply qce) | ((conv => arg 2; arg 1; simp (disch := first | omega | assumption) only [qa7, Option.map_some, qao, qa4, qbc, qa9, qbt, sparts_str, List.length_map, hsp0, hy, hz, g1, g2, g3]); (with_reducible first | apply qad | apply qaa (b := false) | (apply qbo; omega))))
    ((try conv => arg 2; simp (disch := first | omega | assumption) only [qac, qae, qab, qag, g4, g5, g6]); refine qal ?_)
    rfl
  | cons x t ih =>
    intro i ht hi
    have h1 := drop_lt ht
    have hx := idx_drop (f := D.str) ht 1 false .i64
    have hls := slss 3 false x s
    by_cases hxs : x < s
    · rw [decide_eq_true hxs] at hls
      simp only [posS, if_pos hxs] at hi
      refine qa6 (qbj (q73_0 ..) ?_)
      unfold n73_0; dsimp only
      (repeat' first | (with_reducible first | apply qad | apply qa2 | apply qbd | apply tp_gk | apply qav (b := true) | apply qaa (b := true) | apply qar | apply qb4) | ((conv => arg 2; arg 1; simp (disch := first | omega | assumption) only [qbb, qa1, qa0, qap, qbs, qa8, qa4, qbc, qa9, qaz, qbt, cell_str, List.length_map, hx, hls]); (with_reducible first | apply qad | apply qbf | apply qaa (b := true) | (apply qa3; omega))))
      (refine qbl ?_; (conv => lhs; simp only [qam, qbr, qbw, List.take_length, List.map_nil, qa4, qa9]); rw [hsh]; have := ih (i + 1) (qb7 ht) (by omega); exact this)
    · rw [decide_eq_false hxs] at hls
      simp only [posS, if_neg hxs, Nat.add_zero] at hi
      have hgx : l.getD i [] = x := by
        rw [List.getD_eq_getElem?_getD, List.getElem?_eq_getElem h1]
        have := List.drop_eq_getElem_cons h1
        rw [ht] at this
        exact (List.cons.inj this).1.symm
      rw [← hi, hgx] at hput
      by_cases he : x = s
      · rw [if_pos ⟨h1, he⟩] at hput
        rw [hput]
        refine qa6 (qbj (q73_0 ..) ?_)
        unfold n73_0; dsimp only
        (repeat' first | (with_reducible first | apply qad | apply qa2 | apply qbd | apply qaj | apply qav (b := true) | apply qaa (b := true) | apply qar | apply qaq | apply qb4) | ((conv => arg 2; arg 1; simp (disch := first | omega | assumption) only [qbb, Option.map_some, qao, qbs, qa8, qa4, qbc, qa9, qaz, qbt, cell_str, List.length_map, hx, hls]); (with_reducible first | apply qad | apply qaa (b := true) | apply qaa (b := false) | (apply qa3; omega) | (apply qcd; first | assumption | with_reducible rfl))))
        ((try conv => arg 2; simp (disch := first | omega | assumption) only [qac, qap, qae, List.take_length, qab, qag, hsh, hcn]); refine qal ?_)
        rfl
      · rw [if_neg (fun h => he h.2)] at hput
        obtain ⟨y, hy, hy1⟩ := to_enc l i (by omega)
        obtain ⟨y2, hz, hz1, _⟩ := from_enc .str 1 (by omega) plainStr l i (by omega)
        obtain ⟨b1, d1, A1, g1, d2, A2, g2, d3, A3, g3, g4, g5, g6, _⟩ := hins i (by omega) hput y y2 hy1 hz1
        refine qa6 (qbj (q73_0 ..) ?_)
        unfold n73_0; dsimp only
        (repeat' first | (with_reducible first | apply qad | apply qa2 | apply qbd | apply qaj | apply qav (b := true) | apply qaa (b := true) | apply qaq | apply qb4) | ((conv => arg 2; arg 1; simp (disch := first | omega | assumption) only [qbb, Option.map_some, qao, qbs, qa8, qa4, qbc, qa9, qaz, qbt, cell_str, sparts_str, List.length_map, hx, hls, hsp0, hy, hz, g1, g2, g3]); (with_reducible first | apply qad | apply qaa (b := false) | (apply qa3; omega) | (apply qbm; first | assumption | decide | exact List.cons_ne_nil _ _))))
        ((try conv => arg 2; simp (disch := first | omega | assumption) only [qac, qae, qab, qag, g4, g5, g6]); refine qal ?_)
        rfl
theorem s73 (s : Str) (l : List Str) (hl : l.length ≤ 100000) (A : St) : f73 (encL 1 (l.map .str)) (.str s) A = some (.ret (encL 1 ((putS s l).map .str)), A) := by
  have := s73_loop s l hl A l 0 rfl (by omega)
  unfold f73 n73; dsimp only
  refine qa6 ?_
  skip
  (refine qbl ?_; (conv => lhs; simp only []); exact this)
end Go.Vm.Rx
