/- RxS83, RxS84 in one text. -/
import Derived.Test.YtagmpieoalkneaaGreatDoorRxS82
import Derived.Test.YtagmpieoalkneaaGreatDoorRxS60
set_option linter.all false
/- The text of invariants: the program's text. -/
namespace Go.Vm.Rx
open Go Go.Proofs P
set_option maxRecDepth 10000
set_option maxHeartbeats 4000000
theorem s33 (v w : Iv) (B : St) (kv : Nat) (h : B[kv]? = some (.cells (ivC v))) : f33 (encIv w) (.ref kv 0) B = some (.ret (.bool (decide (w.nm = v.nm))), B) := by
  have hbx : boxO true (encIv w) B = some (.ref B.length 0, B ++ [.cells (ivC w)]) := by
    simp [boxO, cellIv, allocD]
  have hlt : kv < B.length := (List.getElem?_eq_some_iff.1 h).1
  have hld : loadO false 1 (.ref kv 0) (B ++ [.cells (ivC w)]) = some (.str v.nm) := by rw [ld_old hlt, load_get h, ivc0]
  unfold f33 n33; dsimp only
  refine qa5 ?_
  (repeat' first | (with_reducible first | apply qa4 | apply qai | (apply tot_seql; all_goals intro hsp)) | ((conv => arg 2; arg 1; simp (disch := first | omega | assumption) only [qah, Nat.add_zero, qbd, ldc0, hbx, hld, ivc0]); (with_reducible apply qac)))
  all_goals (((try conv => arg 2; simp (disch := first | omega | assumption) only [qae, qaq, qap, qad, qan, qab, qaf, List.take_left']); refine qak ?_); simp [*])
theorem pidx_loop (v : Iv) (B : St) (kv : Nat) (h : B[kv]? = some (.cells (ivC v))) (l : List Iv) (hl : l.length ≤ 100000000) : ∀ (t : List Iv) (i : Nat), l.drop i = t →
    Tot (fun r => ∃ n : Int, -1 ≤ n ∧ (0 ≤ n ↔ knownP t v.nm = true) ∧ r = (.ret (.int .i64 n), B)) (LP Tryz.prog rxA 68 [0, 1, 0, 1] [B] (Env.mk (sp [(0, encL 9 (l.map encIv)), (0, .fn (.func 33) [] [.ref kv 0]), (5, .int .i64 (l.length : Nat)), (0, .int .i64 (i : Nat))] 10) []) B) := by
  have hlt : kv < B.length := (List.getElem?_eq_some_iff.1 h).1
  have hfs : (D.fn (.func 33) [] [.ref kv 0]).shut B.length = .fn (.func 33) [] [.ref kv 0] := by simp [D.shut, D.shutL, hlt]
  intro t
  induction t with
  | nil =>
    intro i ht
    have h1 := qbt ht
    refine qbf (q68_0 ..) ?_
    unfold n68_0; dsimp only
    (repeat' first | (with_reducible first | apply qai | apply qaa (b := false) | apply qao) | ((conv => arg 2; arg 1; simp only [Option.map_some, qas, qa6, qba, qa8]); (with_reducible first | apply qac | (apply qa3; omega))))
    ((try conv => arg 2; simp only [qae, qar, qal, qad, List.take_length, qaj, qab, qaf]); refine qak ?_)
    exact ⟨-1, by omega, by simp [knownP], rfl⟩
  | cons x t ih =>
    intro i ht
    have h1 := qbz ht
    have hx := qbw (f := encIv) ht 9 true .i64
    have hcn : (encIv x).canon = encIv x := (plainIv x).canon
    have hrc : (D.ref kv 0).canon = .ref kv 0 := rfl
    have hca : applyD (Run Tryz.prog rxA) (.fn (.func 33) [] [.ref kv 0]) [encIv x] B = some (.ret (.bool (decide (x.nm = v.nm))), B) := by
      rw [app_fn]
      show Run Tryz.prog rxA 33 [encIv x, .ref kv 0] B = _
      rw [r33, hcn, hrc]
      exact s33 v x B kv h
    refine qbf (q68_0 ..) ?_
    unfold n68_0; dsimp only
    by_cases he : x.nm = v.nm
    · rw [decide_eq_true he] at hca
      (repeat' first | (with_reducible first | apply qa4 | apply qaz | apply qai | apply qaa (b := true) | apply qat) | ((conv => arg 2; arg 1; simp (disch := first | omega | assumption) only [Option.map_some, qas, qa2, qa6, qba, qa8, qbk, hx, cellIv, ivcA, hca]); (with_reducible first | apply qac | (apply qa0; omega))))
      ((try conv => arg 2; simp only [qae, qar, qal, qad, List.take_length, qaj, qab, qaf]); refine qak ?_)
      exact ⟨(i : Int), by omega, by simp [knownP, he], rfl⟩
    · rw [decide_eq_false he] at hca
      have hih := ih (i + 1) (qbc ht)
      have e : knownP (x :: t) v.nm = knownP t v.nm := by simp [knownP, he]
      rw [← e] at hih
      (repeat' first | (with_reducible first | apply qa4 | apply qaz | apply tp_gk | apply qaa (b := true) | apply qaa (b := false) | apply qat | apply qao) | ((conv => arg 2; arg 1; simp (disch := first | omega | assumption) only [qbb, qa7, qal, qa2, qa6, qba, qa8, qbk, hx, cellIv, ivcA, hca]); (with_reducible first | apply qac | apply qbr | (apply qa0; omega))))
      conv => arg 2; simp (disch := first | omega | assumption) only [qar, qbs, List.take_length, List.map_nil, qa6, qba, qa8, ivs_shut, hfs]
      exact hih
theorem pcontains (v : Iv) (B : St) (kv : Nat) (h : B[kv]? = some (.cells (ivC v))) (l : List Iv) (hl : l.length ≤ 100000000) :
    f26 (encL 9 (l.map encIv)) (.fn (.func 33) [] [.ref kv 0]) B = some (.ret (.bool (knownP l v.nm)), B) := by
  have hlo := pidx_loop v B kv h l hl l 0 rfl
  have hfc : (D.fn (.func 33) [] [.ref kv 0]).canon = .fn (.func 33) [] [.ref kv 0] := rfl
  unfold f26 n26; dsimp only
  refine qa5 ?_
  conv => arg 2; arg 1; simp (disch := first | omega | assumption) only [r68, ivs_canon, hfc]
  have h2 : Tot (fun r => ∃ n : Int, -1 ≤ n ∧ (0 ≤ n ↔ knownP l v.nm = true) ∧ r = (.ret (.int .i64 n), B)) (f68 (encL 9 (l.map encIv)) (.fn (.func 33) [] [.ref kv 0]) B) := by
    unfold f68 n68; dsimp only
    (repeat' first | ((conv => arg 2; arg 1; simp only [qax, List.length_map]); (with_reducible apply qac)))
    conv => arg 2; simp only []
    exact hlo
  refine tot_bn h2 fun z hz => ?_
  obtain ⟨n, hn, hk, rfl⟩ := hz
  cases hq : knownP l v.nm with
  | true =>
    have := hk.2 hq
    (repeat' first | (with_reducible first | apply qaz | apply qai | (apply tot_geq_t; omega)))
    ((try conv => arg 2; simp only [qae, qaq, qal, qad, List.take_length, qan, qab, qaf]); refine qak ?_)
    rfl
  | false =>
    have : ¬ 0 ≤ n := fun h => by have := hk.1 h; rw [hq] at this; cases this
    (repeat' first | (with_reducible first | apply qaz | apply qai | (apply tot_geq_f; omega)))
    ((try conv => arg 2; simp only [qae, qaq, qal, qad, List.take_length, qan, qab, qaf]); refine qak ?_)
    rfl
theorem s12_loop (l : List Iv) (hl : l.length ≤ 64) (hv : ∀ v, v ∈ l → IvWell v) (A : St) : ∀ (t : List Iv) (i : Nat) (b : Str), l.drop i = t → i ≤ l.length → b.length ≤ 1300000 * i →
    LP Tryz.prog rxA 12 [0, 1, 0, 1, 1, 1] [A] (Env.mk (sp [(0, encL 9 (l.map encIv)), (4, byS A b), (7, encL 9 (l.map encIv)), (0, .int .i64 (l.length : Nat)), (0, .int .i64 (i : Nat))] 29) []) (A ++ [.tok b.length]) = some (.ret (printT (printL b (l.take i) t)), A) := by
  have hsh := ivs_shut l 9
  intro t
  induction t with
  | nil =>
    intro i b ht hi hb
    have h1 := qbt ht
    have hbl := by_len A b
    have hcv := by_conv A b
    unfold printL
    refine qa5 (qbf (q12_0 ..) ?_)
    unfold n12_0; dsimp only
    by_cases h2 : 1048576 < b.length
    · rw [if_pos h2]
      (repeat' first | (with_reducible first | apply qai | apply qaa (b := true) | apply qaa (b := false) | apply qat | apply qao | (apply tot_gtr_t; omega)) | ((conv => arg 2; arg 1; simp (disch := first | omega | assumption) only [Option.map_some, qas, qa6, qba, qa8, hbl]); (with_reducible first | apply qac | (apply qa3; omega))))
      ((try conv => arg 2; simp (disch := first | omega | assumption) only [qae, qar, qbx, qby, qbl, qbg, qap, qad, qaj, qau, qbq, qbh, qa9, qab, qaf, List.take_left']); refine qak ?_)
      rfl
    · rw [if_neg h2]
      (repeat' first | (with_reducible first | apply qai | apply qaa (b := false) | apply qao | (apply tot_gtr_f; omega)) | ((conv => arg 2; arg 1; simp (disch := first | omega | assumption) only [Option.map_some, qas, qa6, qba, qa8, hbl, hcv]); (with_reducible first | apply qac | (apply qa3; omega))))
      ((try conv => arg 2; simp (disch := first | omega | assumption) only [qae, qar, qbx, qby, qbl, qbg, qap, qad, qaj, qau, qbq, qbh, qa9, qab, qaf, List.take_left']); refine qak ?_)
      rfl
  | cons v t ih =>
    intro i b ht hi hb
    have h1 := qbz ht
    have hx := qbw (f := encIv) ht 9 true .i64
    have hcn : (encIv v).canon = encIv v := (plainIv v).canon
    have hvv := hv v (drop_mem ht)
    have hln := fun A => s18 v hvv A
    have htl : (l.take i).length = i := by simp; omega
    have hli := ivcS v [] [] (.sl .full 0 []) 0 0 0
    unfold ivX at hli
    unfold lineD at hln
    unfold printL
    refine qa5 (qbf (q12_0 ..) ?_)
    unfold n12_0; dsimp only
    by_cases h2 : ivForm v = 0
    · simp only [if_pos h2] at hln
      rw [if_neg (fun h => h h2)]
      obtain ⟨y, hy, hyc⟩ := to_ivs l i (by omega)
      have hkn : f26 (encL 9 ((l.take i).map encIv)) (.fn (.func 33) [] [.ref (A.length + 1) 0]) (A ++ [.tok b.length, .cells (ivC v)]) = some (.ret (.bool (knownP (l.take i) v.nm)), A ++ [.tok b.length, .cells (ivC v)]) :=
        pcontains v _ (A.length + 1) (by rw [get_sh]; rfl) (l.take i) (by omega)
      have hfc : ∀ q, (D.fn (.func 33) [] [.ref q 0]).canon = .fn (.func 33) [] [.ref q 0] := fun _ => rfl
      cases hk : knownP (l.take i) v.nm
      · rw [if_neg (by decide)]
        rw [hk] at hkn
        have hsl := line_len hvv h2
        have hadd : binO .add 3 true (.str (sayW (ivBody v))) (.str [10]) = some (.str (sayW (ivBody v) ++ [10])) := str_add (by simp only [List.length_cons, List.length_nil]; omega)
        have ha1 := by_app A b (sayW (ivBody v) ++ [10]) (y := .str (sayW (ivBody v) ++ [10])) [.cells (ivC v)] rfl (by simp only [List.length_append, List.length_cons, List.length_nil]; omega)
        have hbs := by_shut A (b ++ (sayW (ivBody v) ++ [10])) (n := A.length + 1) (by omega)
        have hbt := fun S => by_tok A S (b ++ (sayW (ivBody v) ++ [10]))
        have hkp := fun n => by_kept A [.cells (ivC v)] b.length n
        have htk := fun s => by_take A [.cells (ivC v)] s
        have hih := ih (i + 1) (b ++ (sayW (ivBody v) ++ [10])) (qbc ht) (by omega) (by simp only [List.length_append, List.length_cons, List.length_nil]; omega)
        have htt : l.take (i + 1) = l.take i ++ [v] := by
          rw [List.take_add_one]
          have := List.drop_eq_getElem_cons h1
          rw [ht] at this
          rw [List.getElem?_eq_getElem h1, ← (List.cons.inj this).1]; rfl
        rw [htt] at hih
        rw [List.append_assoc]
        simp only [List.length_append, List.length_cons, List.length_nil, Nat.zero_add] at ha1 hih
        (repeat' first | (with_reducible first | apply qa4 | apply qaz | apply tp_gk | apply qaa (b := true) | apply qaa (b := false) | apply qat | apply qao | (apply tot_neq_t; omega)) | ((conv => arg 2; arg 1; simp (disch := first | omega | assumption) only [qbb, qa7, qa2, Nat.zero_add, alloc_eq, List.length_append, List.length_cons, List.length_nil, qa6, qba, qa8, qbk, app_one, app_nil', qb0, ld_sh, ldc0, ldcS, sto_sh, stoc0, stocS, ext0, extS, hx, cellIv, ivcA, hli, hcn, r18, hln, hy, hyc, hfc, r26, hkn, hadd, ha1, hbt, hkp]); (with_reducible first | apply qac | apply qbr | (apply qa0; omega))))
        refine qaw ?_
        conv => lhs; simp (disch := first | omega | assumption) only [qar, qbs, List.map_nil, Nat.zero_add, List.length_append, List.length_cons, List.length_nil, qa6, qba, qa8, hsh, hbs, htk]
        exact hih
      · rw [if_pos rfl]
        rw [hk] at hkn
        (repeat' first | (with_reducible first | apply qa4 | apply qaz | apply qai | apply qaa (b := true) | apply qaa (b := false) | apply qat | apply qao | (apply tot_neq_t; omega)) | ((conv => arg 2; arg 1; simp (disch := first | omega | assumption) only [Option.map_some, qas, qa2, Nat.zero_add, alloc_eq, List.length_append, List.length_cons, List.length_nil, qa6, qba, qa8, qbk, app_one, app_nil', qb0, ld_sh, ldc0, ldcS, sto_sh, stoc0, stocS, ext0, extS, hx, cellIv, ivcA, hli, hcn, r18, hln, hy, hyc, hfc, r26, hkn]); (with_reducible first | apply qac | (apply qa0; omega))))
        ((try conv => arg 2; simp (disch := first | omega | assumption) only [qae, qar, qbx, qby, qbl, qbg, qap, qad, qaj, qau, qbq, qbh, qa9, qab, qaf, List.take_left']); refine qak ?_)
        rw [htl]; rfl
    · simp only [if_neg h2] at hln
      rw [if_pos h2]
      (repeat' first | (with_reducible first | apply qa4 | apply qaz | apply qai | apply qaa (b := true) | apply qat | (apply tot_neq_f; omega)) | ((conv => arg 2; arg 1; simp (disch := first | omega | assumption) only [Option.map_some, qas, qa2, Nat.zero_add, alloc_eq, List.length_append, List.length_cons, List.length_nil, qa6, qba, qa8, qbk, app_one, app_nil', qb0, ld_sh, ldc0, ldcS, sto_sh, stoc0, stocS, ext0, extS, hx, cellIv, ivcA, hli, hcn, r18, hln]); (with_reducible first | apply qac | (apply qa0; omega))))
      ((try conv => arg 2; simp (disch := first | omega | assumption) only [qae, qar, qbx, qby, qbl, qbg, qap, qad, qaj, qau, qbq, qbh, qa9, qab, qaf, List.take_left']); refine qak ?_)
      rw [htl]; rfl
theorem s12 (l : List Iv) (hl : l.length ≤ 100000000) (hv : ∀ v, v ∈ l → IvWell v) (A : St) : f12 (encL 9 (l.map encIv)) A = some (.ret (printT (printP l)), A) := by
  unfold f12 n12 printP; dsimp only
  refine qa5 ?_
  by_cases h : 64 < l.length
  · rw [if_pos h]
    (repeat' first | (with_reducible first | apply qai | apply qaa (b := true) | apply qat | (apply tot_gtr_t; omega)) | ((conv => arg 2; arg 1; simp only [qax, List.length_map]); (with_reducible apply qac)))
    ((try conv => arg 2; simp only [qae, qar, qbx, qby, qbl, qbg, qal, qad, List.take_length, qaj, qau, qbq, qbh, qa9, qab, qaf]); refine qak ?_)
    rfl
  · rw [if_neg h]
    have hlo := s12_loop l (by omega) hv A l 0 [] rfl (by omega) (by simp)
    have htk := fun A => tok_nil 0 1 0 A (by omega)
    (repeat' first | (with_reducible first | apply qaa (b := false) | apply qao | (apply tot_gtr_f; omega)) | ((conv => arg 2; arg 1; simp (disch := first | omega | assumption) only [qax, List.length_map, htk]); (with_reducible apply qac)))
    (refine qaw ?_; (conv => lhs; simp only []); exact hlo)
end Go.Vm.Rx

/- Which invariants are the same: both texts; the law of prints. -/
namespace Go.Vm.Rx
open Go Go.Proofs P
set_option maxRecDepth 10000
set_option maxHeartbeats 4000000
theorem texts_eq_loop (a b : List Str) (ha : a.length ≤ 100000000) (hab : a.length = b.length) (A : St) : ∀ (t t' : List Str) (i : Nat), a.drop i = t → b.drop i = t' →
    LP Tryz.prog rxA 40 [0, 1, 0, 1, 1] [A] (Env.mk (sp [(0, encL 1 (a.map .str)), (0, encL 1 (b.map .str)), (3, .int .i64 (i : Nat))] 20) []) A = some (.ret (.bool (decide (t = t'))), A) := by
  have h1s := str_shut a 1
  have h2s := str_shut b 1
  intro t
  induction t with
  | nil =>
    intro t' i ht ht'
    have hl := qbt ht
    have : t' = [] := by rw [← ht']; exact List.drop_eq_nil_of_le (by omega)
    subst this
    refine qa5 (qbf (q40_0 ..) ?_)
    unfold n40_0; dsimp only
    (repeat' first | (with_reducible first | apply qai | apply qaa (b := false) | apply qao) | ((conv => arg 2; arg 1; simp only [Option.map_some, qas, qa6, qba, qa8, qax, List.length_map]); (with_reducible first | apply qac | (apply qa3; omega))))
    ((try conv => arg 2; simp only [qae, qaq, qal, qad, List.take_length, qan, qab, qaf]); refine qak ?_)
    rfl
  | cons x t ih =>
    intro t' i ht ht'
    have hl := qbz ht
    cases t' with
    | nil => have := qbt ht'; omega
    | cons x' t' =>
      have hx := qbw (f := D.str) ht 1 false .i64
      have hx' := qbw (f := D.str) ht' 1 false .i64
      have hih := ih t' (i + 1) (qbc ht) (qbc ht')
      refine qa5 (qbf (q40_0 ..) ?_)
      unfold n40_0; dsimp only
      by_cases he : x = x'
      · have e : decide (x :: t = x' :: t') = decide (t = t') := by simp [he]
        rw [e]
        (repeat' first | (with_reducible first | apply tp_gk | apply qaa (b := true) | apply qaa (b := false) | apply qat | apply qao | (apply tot_sneq_t; first | assumption | with_reducible rfl)) | ((conv => arg 2; arg 1; simp (disch := first | omega | assumption) only [qbb, qa7, qal, qa2, qa1, qa6, qba, qa8, qbk, qax, cell_str, List.length_map, hx, hx']); (with_reducible first | apply qac | apply qbr | (apply qa0; omega))))
        (refine qaw ?_; (conv => lhs; simp only [qar, qbs, List.take_length, List.map_nil, qa6, qa8]); rw [h1s, h2s]; exact hih)
      · have e : decide (x :: t = x' :: t') = false := by simp [he]
        rw [e]
        (repeat' first | (with_reducible first | apply qai | apply qaa (b := true) | apply qat | (apply tot_sneq_f; first | assumption | decide | exact List.cons_ne_nil _ _)) | ((conv => arg 2; arg 1; simp (disch := first | omega | assumption) only [Option.map_some, qas, qa2, qa1, qa6, qba, qa8, qbk, qax, cell_str, List.length_map, hx, hx']); (with_reducible first | apply qac | (apply qa0; omega))))
        ((try conv => arg 2; simp only [qae, qaq, qal, qad, List.take_length, qan, qab, qaf]); refine qak ?_)
        rfl
theorem texts_eq (a b : List Str) (ha : a.length ≤ 100000000) (hb : b.length ≤ 100000000) (A : St) : f40 (encL 1 (a.map .str)) (encL 1 (b.map .str)) A = some (.ret (.bool (decide (a = b))), A) := by
  unfold f40 n40; dsimp only
  refine qa5 ?_
  by_cases h : a.length = b.length
  · have hlo := texts_eq_loop a b ha h A a b 0 rfl rfl
    (repeat' first | (with_reducible first | apply qaa (b := false) | apply qao | (apply tot_neq_t; omega)) | ((conv => arg 2; arg 1; simp only [qax, List.length_map]); (with_reducible apply qac)))
    (refine qaw ?_; (conv => lhs; simp only []); exact hlo)
  · have e : decide (a = b) = false := by simp; intro e; exact h (by rw [e])
    rw [e]
    (repeat' first | (with_reducible first | apply qai | apply qaa (b := true) | apply qat | (apply tot_neq_f; omega)) | ((conv => arg 2; arg 1; simp only [qax, List.length_map]); (with_reducible apply qac)))
    ((try conv => arg 2; simp only [qae, qaq, qal, qad, List.take_length, qan, qab, qaf]); refine qak ?_)
    rfl
theorem equal_eq_loop (a b : List Str) (ha : a.length ≤ 100000000) (hab : a.length = b.length) (A : St) : ∀ (t t' : List Str) (i : Nat), a.drop i = t → b.drop i = t' →
    LP Tryz.prog rxA 38 [0, 1, 0, 1, 1] [A] (Env.mk (sp [(0, encL 1 (a.map .str)), (0, encL 1 (b.map .str)), (10, .int .i64 (a.length : Nat)), (0, .int .i64 (i : Nat))] 12) []) A = some (.ret (.bool (decide (t = t'))), A) := by
  have h1s := str_shut a 1
  have h2s := str_shut b 1
  intro t
  induction t with
  | nil =>
    intro t' i ht ht'
    have hl := qbt ht
    have : t' = [] := by rw [← ht']; exact List.drop_eq_nil_of_le (by omega)
    subst this
    refine qa5 (qbf (q38_0 ..) ?_)
    unfold n38_0; dsimp only
    (repeat' first | (with_reducible first | apply qai | apply qaa (b := false) | apply qao) | ((conv => arg 2; arg 1; simp only [Option.map_some, qas, qa6, qba, qa8]); (with_reducible first | apply qac | (apply qa3; omega))))
    ((try conv => arg 2; simp only [qae, qaq, qal, qad, List.take_length, qan, qab, qaf]); refine qak ?_)
    rfl
  | cons x t ih =>
    intro t' i ht ht'
    have hl := qbz ht
    cases t' with
    | nil => have := qbt ht'; omega
    | cons x' t' =>
      have hx := qbw (f := D.str) ht 1 false .i64
      have hx' := qbw (f := D.str) ht' 1 false .i64
      have hih := ih t' (i + 1) (qbc ht) (qbc ht')
      refine qa5 (qbf (q38_0 ..) ?_)
      unfold n38_0; dsimp only
      by_cases he : x = x'
      · have e : decide (x :: t = x' :: t') = decide (t = t') := by simp [he]
        rw [e]
        (repeat' first | (with_reducible first | apply tp_gk | apply qaa (b := true) | apply qaa (b := false) | apply qat | apply qao | (apply tot_sneq_t; first | assumption | with_reducible rfl)) | ((conv => arg 2; arg 1; simp (disch := first | omega | assumption) only [qbb, qa7, qal, qa2, qa1, qa6, qba, qa8, qbk, cell_str, hx, hx']); (with_reducible first | apply qac | apply qbr | (apply qa0; omega))))
        (refine qaw ?_; (conv => lhs; simp only [qar, qbs, List.take_length, List.map_nil, qa6, qba, qa8]); rw [h1s, h2s]; exact hih)
      · have e : decide (x :: t = x' :: t') = false := by simp [he]
        rw [e]
        (repeat' first | (with_reducible first | apply qai | apply qaa (b := true) | apply qat | (apply tot_sneq_f; first | assumption | decide | exact List.cons_ne_nil _ _)) | ((conv => arg 2; arg 1; simp (disch := first | omega | assumption) only [Option.map_some, qas, qa2, qa1, qa6, qba, qa8, qbk, cell_str, hx, hx']); (with_reducible first | apply qac | (apply qa0; omega))))
        ((try conv => arg 2; simp only [qae, qaq, qal, qad, List.take_length, qan, qab, qaf]); refine qak ?_)
        rfl
theorem equal_eq (a b : List Str) (ha : a.length ≤ 100000000) (hb : b.length ≤ 100000000) (A : St) : f38 (encL 1 (a.map .str)) (encL 1 (b.map .str)) A = some (.ret (.bool (decide (a = b))), A) := by
  unfold f38 n38; dsimp only
  refine qa5 ?_
  by_cases h : a.length = b.length
  · have hlo := equal_eq_loop a b ha h A a b 0 rfl rfl
    (repeat' first | (with_reducible first | apply qaa (b := false) | apply qao | (apply tot_neq_t; omega)) | ((conv => arg 2; arg 1; simp only [qax, List.length_map]); (with_reducible apply qac)))
    (refine qaw ?_; (conv => lhs; simp only []); exact hlo)
  · have e : decide (a = b) = false := by simp; intro e; exact h (by rw [e])
    rw [e]
    (repeat' first | (with_reducible first | apply qai | apply qaa (b := true) | apply qat | (apply tot_neq_f; omega)) | ((conv => arg 2; arg 1; simp only [qax, List.length_map]); (with_reducible apply qac)))
    ((try conv => arg 2; simp only [qae, qaq, qal, qad, List.take_length, qan, qab, qaf]); refine qak ?_)
    rfl
def sameIv (a b : Iv) : Bool := decide (a.nm = b.nm) && decide (a.pk = b.pk) && decide (a.ing = b.ing) && decide (a.hops = b.hops) && decide (a.cmp = b.cmp) && decide (a.cnt = b.cnt) && a.path.same b.path
theorem sameIv_refl (a : Iv) : sameIv a a = true := by simp [sameIv, Rx.same_refl]
theorem s16 (a b : Iv) (ha : IvOk a) (hb : IvOk b) (A : St) : f16 (encIv a) (encIv b) A = some (.ret (.bool (sameIv a b)), A) := by
  have ht := fun A => equal_eq a.ing b.ing ha.2 hb.2 A
  have hr := fun A => s39 _ ha.1 _ hb.1 A
  have e : sameIv a b = (decide (a.nm = b.nm) && decide (a.pk = b.pk) && decide (a.ing = b.ing) && decide (a.hops = b.hops) && decide (a.cmp = b.cmp) && decide (a.cnt = b.cnt) && a.path.same b.path) := rfl
  rw [e]
  unfold f16 n16; dsimp only
  refine qa5 ?_
  by_cases h0 : a.nm = b.nm
  · rw [decide_eq_true h0]
    by_cases h1 : a.pk = b.pk
    · rw [decide_eq_true h1]
      by_cases h2 : a.ing = b.ing
      · rw [decide_eq_true h2] at ht ⊢
        by_cases h3 : a.hops = b.hops
        · rw [decide_eq_true h3]
          by_cases h4 : a.cmp = b.cmp
          · rw [decide_eq_true h4]
            by_cases h5 : a.cnt = b.cnt
            · rw [decide_eq_true h5]
              cases hq : a.path.same b.path <;> rw [hq] at hr
              all_goals ((repeat' first | (with_reducible first | apply qa4 | apply qay | apply qaz | apply qai | apply qag (b := true) | apply qaa (b := true) | apply qbe | (apply qbo; omega) | (apply tot_seql_t; first | assumption | with_reducible rfl)) | ((conv => arg 2; arg 1; simp (disch := first | omega | assumption) only [qav, qah, Nat.zero_add, Nat.add_zero, List.length_append, List.length_cons, List.length_nil, app_one, app_nil', qb0, ld_sh, qbd, ldc0, ldcS, ivbx, ivc0, ivc1, ivc2, ivc3, ivc4, ivc5, ivc6, str_canon, qbp, r38, ht, r39, hr]); (with_reducible first | apply qac | apply qag (b := true) | apply qaa (b := true)))); ((try conv => arg 2; simp (disch := first | omega | assumption) only [qav, qae, qaq, qap, qad, qan, qab, qaf, List.take_left']); refine qak ?_); rfl)
            · rw [decide_eq_false h5]
              (repeat' first | (with_reducible first | apply qac | apply qa4 | apply qay | apply qaz | apply qai | apply qag (b := true) | apply qaa (b := true) | apply qbe | apply qbj | (apply qbo; omega) | (apply qbv; omega) | (apply tot_seql_t; first | assumption | with_reducible rfl)) | ((conv => arg 2; arg 1; simp (disch := first | omega | assumption) only [qav, qah, Nat.zero_add, Nat.add_zero, List.length_append, List.length_cons, List.length_nil, app_one, app_nil', qb0, ld_sh, qbd, ldc0, ldcS, ivbx, ivc0, ivc1, ivc2, ivc3, ivc4, ivc5, str_canon, r38, ht]); (with_reducible first | apply qac | apply qag (b := true) | apply qag (b := false) | apply qaa (b := true) | apply qaa (b := false))))
              ((try conv => arg 2; simp (disch := first | omega | assumption) only [qam, qae, qaq, qap, qad, qan, qab, qaf, List.take_left']); refine qak ?_)
              simp
          · rw [decide_eq_false h4]
            (repeat' first | (with_reducible first | apply qac | apply qa4 | apply qay | apply qaz | apply qai | apply qag (b := true) | apply qaa (b := true) | apply qbe | apply qbj | (apply qbo; omega) | (apply qbv; omega) | (apply tot_seql_t; first | assumption | with_reducible rfl)) | ((conv => arg 2; arg 1; simp (disch := first | omega | assumption) only [qav, qam, qah, Nat.zero_add, Nat.add_zero, List.length_append, List.length_cons, List.length_nil, app_one, app_nil', qb0, ld_sh, qbd, ldc0, ldcS, ivbx, ivc0, ivc1, ivc2, ivc3, ivc4, str_canon, r38, ht]); (with_reducible first | apply qac | apply qag (b := true) | apply qag (b := false) | apply qaa (b := true) | apply qaa (b := false))))
            ((try conv => arg 2; simp (disch := first | omega | assumption) only [qam, qae, qaq, qap, qad, qan, qab, qaf, List.take_left']); refine qak ?_)
            simp
        · rw [decide_eq_false h3]
          (repeat' first | (with_reducible first | apply qac | apply qa4 | apply qay | apply qaz | apply qai | apply qag (b := true) | apply qaa (b := true) | apply qbe | apply qbj | (apply qbv; omega) | (apply tot_seql_t; first | assumption | with_reducible rfl)) | ((conv => arg 2; arg 1; simp (disch := first | omega | assumption) only [qav, qam, qah, Nat.zero_add, Nat.add_zero, List.length_append, List.length_cons, List.length_nil, app_one, app_nil', qb0, ld_sh, qbd, ldc0, ldcS, ivbx, ivc0, ivc1, ivc2, ivc3, str_canon, r38, ht]); (with_reducible first | apply qac | apply qag (b := true) | apply qag (b := false) | apply qaa (b := true) | apply qaa (b := false))))
          ((try conv => arg 2; simp (disch := first | omega | assumption) only [qam, qae, qaq, qap, qad, qan, qab, qaf, List.take_left']); refine qak ?_)
          simp
      · rw [decide_eq_false h2] at ht ⊢
        (repeat' first | (with_reducible first | apply qac | apply qa4 | apply qay | apply qaz | apply qai | apply qag (b := true) | apply qaa (b := true) | apply qbe | apply qbj | (apply tot_seql_t; first | assumption | with_reducible rfl)) | ((conv => arg 2; arg 1; simp (disch := first | omega | assumption) only [qav, qam, qah, Nat.zero_add, Nat.add_zero, List.length_append, List.length_cons, List.length_nil, app_one, app_nil', qb0, ld_sh, qbd, ldc0, ldcS, ivbx, ivc0, ivc1, ivc2, str_canon, r38, ht]); (with_reducible first | apply qac | apply qag (b := true) | apply qag (b := false) | apply qaa (b := true) | apply qaa (b := false))))
        ((try conv => arg 2; simp (disch := first | omega | assumption) only [qam, qae, qaq, qap, qad, qan, qab, qaf, List.take_left']); refine qak ?_)
        simp
    · rw [decide_eq_false h1]
      (repeat' first | (with_reducible first | apply qac | apply qa4 | apply qay | apply qaz | apply qai | apply qag (b := true) | apply qaa (b := true) | apply qbe | apply qbj | (apply tot_seql_t; first | assumption | with_reducible rfl) | (apply tot_seql_f; first | assumption | decide | exact List.cons_ne_nil _ _)) | ((conv => arg 2; arg 1; simp (disch := first | omega | assumption) only [qav, qam, qah, Nat.zero_add, Nat.add_zero, List.length_append, List.length_cons, List.length_nil, app_one, app_nil', qb0, ld_sh, qbd, ldc0, ldcS, ivbx, ivc0, ivc1]); (with_reducible first | apply qac | apply qag (b := false) | apply qaa (b := false))))
      ((try conv => arg 2; simp (disch := first | omega | assumption) only [qam, qae, qaq, qap, qad, qan, qab, qaf, List.take_left']); refine qak ?_)
      simp
  · rw [decide_eq_false h0]
    (repeat' first | (with_reducible first | apply qac | apply qa4 | apply qay | apply qaz | apply qai | apply qag (b := false) | apply qaa (b := false) | apply qbj | (apply tot_seql_f; first | assumption | decide | exact List.cons_ne_nil _ _)) | ((conv => arg 2; arg 1; simp (disch := first | omega | assumption) only [qam, qah, Nat.zero_add, Nat.add_zero, List.length_append, List.length_cons, List.length_nil, app_one, app_nil', qb0, ld_sh, qbd, ldc0, ldcS, ivbx, ivc0]); (with_reducible first | apply qac | apply qag (b := false) | apply qaa (b := false))))
    ((try conv => arg 2; simp (disch := first | omega | assumption) only [qam, qae, qaq, qap, qad, qan, qab, qaf, List.take_left']); refine qak ?_)
    simp
theorem rsame_eq (a b : Iv) (ha : IvOk a) (hb : IvOk b) (A : St) : f17 (encIv a) (encIv b) A = some (.ret (.bool (sameIv a b)), A) := by
  have ht := fun A => texts_eq a.ing b.ing ha.2 hb.2 A
  have hr := fun A => s41 _ ha.1 _ hb.1 A
  have e : sameIv a b = (decide (a.nm = b.nm) && decide (a.pk = b.pk) && decide (a.ing = b.ing) && decide (a.hops = b.hops) && decide (a.cmp = b.cmp) && decide (a.cnt = b.cnt) && a.path.same b.path) := rfl
  rw [e]
  unfold f17 n17; dsimp only
  refine qa5 ?_
  by_cases h0 : a.nm = b.nm
  · rw [decide_eq_true h0]
    by_cases h1 : a.pk = b.pk
    · rw [decide_eq_true h1]
      by_cases h2 : a.ing = b.ing
      · rw [decide_eq_true h2] at ht ⊢
        by_cases h3 : a.hops = b.hops
        · rw [decide_eq_true h3]
          by_cases h4 : a.cmp = b.cmp
          · rw [decide_eq_true h4]
            by_cases h5 : a.cnt = b.cnt
            · rw [decide_eq_true h5]
              cases hq : a.path.same b.path <;> rw [hq] at hr
              all_goals ((repeat' first | (with_reducible first | apply qa4 | apply qay | apply qaz | apply qai | apply qag (b := true) | apply qaa (b := true) | apply qbe | (apply qbo; omega) | (apply tot_seql_t; first | assumption | with_reducible rfl)) | ((conv => arg 2; arg 1; simp (disch := first | omega | assumption) only [qav, qah, Nat.zero_add, Nat.add_zero, List.length_append, List.length_cons, List.length_nil, app_one, app_nil', qb0, ld_sh, qbd, ldc0, ldcS, ivbx, ivc0, ivc1, ivc2, ivc3, ivc4, ivc5, ivc6, str_canon, qbp, r40, ht, r41, hr]); (with_reducible first | apply qac | apply qag (b := true) | apply qaa (b := true)))); ((try conv => arg 2; simp (disch := first | omega | assumption) only [qav, qae, qaq, qap, qad, qan, qab, qaf, List.take_left']); refine qak ?_); rfl)
            · rw [decide_eq_false h5]
              (repeat' first | (with_reducible first | apply qac | apply qa4 | apply qay | apply qaz | apply qai | apply qag (b := true) | apply qaa (b := true) | apply qbe | apply qbj | (apply qbo; omega) | (apply qbv; omega) | (apply tot_seql_t; first | assumption | with_reducible rfl)) | ((conv => arg 2; arg 1; simp (disch := first | omega | assumption) only [qav, qah, Nat.zero_add, Nat.add_zero, List.length_append, List.length_cons, List.length_nil, app_one, app_nil', qb0, ld_sh, qbd, ldc0, ldcS, ivbx, ivc0, ivc1, ivc2, ivc3, ivc4, ivc5, str_canon, r40, ht]); (with_reducible first | apply qac | apply qag (b := true) | apply qag (b := false) | apply qaa (b := true) | apply qaa (b := false))))
              ((try conv => arg 2; simp (disch := first | omega | assumption) only [qam, qae, qaq, qap, qad, qan, qab, qaf, List.take_left']); refine qak ?_)
              simp
          · rw [decide_eq_false h4]
            (repeat' first | (with_reducible first | apply qac | apply qa4 | apply qay | apply qaz | apply qai | apply qag (b := true) | apply qaa (b := true) | apply qbe | apply qbj | (apply qbo; omega) | (apply qbv; omega) | (apply tot_seql_t; first | assumption | with_reducible rfl)) | ((conv => arg 2; arg 1; simp (disch := first | omega | assumption) only [qav, qam, qah, Nat.zero_add, Nat.add_zero, List.length_append, List.length_cons, List.length_nil, app_one, app_nil', qb0, ld_sh, qbd, ldc0, ldcS, ivbx, ivc0, ivc1, ivc2, ivc3, ivc4, str_canon, r40, ht]); (with_reducible first | apply qac | apply qag (b := true) | apply qag (b := false) | apply qaa (b := true) | apply qaa (b := false))))
            ((try conv => arg 2; simp (disch := first | omega | assumption) only [qam, qae, qaq, qap, qad, qan, qab, qaf, List.take_left']); refine qak ?_)
            simp
        · rw [decide_eq_false h3]
          (repeat' first | (with_reducible first | apply qac | apply qa4 | apply qay | apply qaz | apply qai | apply qag (b := true) | apply qaa (b := true) | apply qbe | apply qbj | (apply qbv; omega) | (apply tot_seql_t; first | assumption | with_reducible rfl)) | ((conv => arg 2; arg 1; simp (disch := first | omega | assumption) only [qav, qam, qah, Nat.zero_add, Nat.add_zero, List.length_append, List.length_cons, List.length_nil, app_one, app_nil', qb0, ld_sh, qbd, ldc0, ldcS, ivbx, ivc0, ivc1, ivc2, ivc3, str_canon, r40, ht]); (with_reducible first | apply qac | apply qag (b := true) | apply qag (b := false) | apply qaa (b := true) | apply qaa (b := false))))
          ((try conv => arg 2; simp (disch := first | omega | assumption) only [qam, qae, qaq, qap, qad, qan, qab, qaf, List.take_left']); refine qak ?_)
          simp
      · rw [decide_eq_false h2] at ht ⊢
        (repeat' first | (with_reducible first | apply qac | apply qa4 | apply qay | apply qaz | apply qai | apply qag (b := true) | apply qaa (b := true) | apply qbe | apply qbj | (apply tot_seql_t; first | assumption | with_reducible rfl)) | ((conv => arg 2; arg 1; simp (disch := first | omega | assumption) only [qav, qam, qah, Nat.zero_add, Nat.add_zero, List.length_append, List.length_cons, List.length_nil, app_one, app_nil', qb0, ld_sh, qbd, ldc0, ldcS, ivbx, ivc0, ivc1, ivc2, str_canon, r40, ht]); (with_reducible first | apply qac | apply qag (b := true) | apply qag (b := false) | apply qaa (b := true) | apply qaa (b := false))))
        ((try conv => arg 2; simp (disch := first | omega | assumption) only [qam, qae, qaq, qap, qad, qan, qab, qaf, List.take_left']); refine qak ?_)
        simp
    · rw [decide_eq_false h1]
      (repeat' first | (with_reducible first | apply qac | apply qa4 | apply qay | apply qaz | apply qai | apply qag (b := true) | apply qaa (b := true) | apply qbe | apply qbj | (apply tot_seql_t; first | assumption | with_reducible rfl) | (apply tot_seql_f; first | assumption | decide | exact List.cons_ne_nil _ _)) | ((conv => arg 2; arg 1; simp (disch := first | omega | assumption) only [qav, qam, qah, Nat.zero_add, Nat.add_zero, List.length_append, List.length_cons, List.length_nil, app_one, app_nil', qb0, ld_sh, qbd, ldc0, ldcS, ivbx, ivc0, ivc1]); (with_reducible first | apply qac | apply qag (b := false) | apply qaa (b := false))))
      ((try conv => arg 2; simp (disch := first | omega | assumption) only [qam, qae, qaq, qap, qad, qan, qab, qaf, List.take_left']); refine qak ?_)
      simp
  · rw [decide_eq_false h0]
    (repeat' first | (with_reducible first | apply qac | apply qa4 | apply qay | apply qaz | apply qai | apply qag (b := false) | apply qaa (b := false) | apply qbj | (apply tot_seql_f; first | assumption | decide | exact List.cons_ne_nil _ _)) | ((conv => arg 2; arg 1; simp (disch := first | omega | assumption) only [qam, qah, Nat.zero_add, Nat.add_zero, List.length_append, List.length_cons, List.length_nil, app_one, app_nil', qb0, ld_sh, qbd, ldc0, ldcS, ivbx, ivc0]); (with_reducible first | apply qac | apply qag (b := false) | apply qaa (b := false))))
    ((try conv => arg 2; simp (disch := first | omega | assumption) only [qam, qae, qaq, qap, qad, qan, qab, qaf, List.take_left']); refine qak ?_)
    simp
theorem law_prints_loop (l : List Iv) (hl : l.length ≤ 100000000) (hv : ∀ v, v ∈ l → IvOk v) (A : St) : ∀ (t : List Iv) (i : Nat), l.drop i = t → 1 ≤ i →
    LP Tryz.prog rxA 6 [0, 1, 0, 1, 1, 1, 1] [A] (Env.mk (sp [(0, encL 9 (l.map encIv)), (8, .int .i64 (i : Nat))] 68) []) A = some (.ret (.bool true), A) := by
  have hsh := ivs_shut l 9
  intro t
  induction t with
  | nil =>
    intro i ht hi
    have h1 := qbt ht
    refine qa5 (qbf (q6_0 ..) ?_)
    unfold n6_0; dsimp only
    (repeat' first | (with_reducible first | apply qai | apply qaa (b := false) | apply qao) | ((conv => arg 2; arg 1; simp only [Option.map_some, qas, qa6, qba, qa8, qax, List.length_map]); (with_reducible first | apply qac | (apply qa3; omega))))
    ((try conv => arg 2; simp only [qae, qaq, qal, qad, List.take_length, qan, qab, qaf]); refine qak ?_)
    rfl
  | cons v t ih =>
    intro i ht hi
    have h1 := qbz ht
    have hx := qbw (f := encIv) ht 9 true .i64
    have hi1 : ((i : Int) - 1) = ((i - 1 : Nat) : Int) := by omega
    have hy := idx_map (f := encIv) (l := l) (i := i - 1) (by omega) 9 true .i64
    rw [← hi1] at hy
    have hum : l[i - 1]'(by omega) ∈ l := List.getElem_mem _
    generalize l[i - 1]'(by omega) = u at hy hum
    have hs1 := fun A => s16 u v (hv u hum) (hv v (drop_mem ht)) A
    have hs2 := fun A => rsame_eq u v (hv u hum) (hv v (drop_mem ht)) A
    have hs3 := fun A => s16 v v (hv v (drop_mem ht)) (hv v (drop_mem ht)) A
    simp only [sameIv_refl] at hs3
    have hcn : ∀ v : Iv, (encIv v).canon = encIv v := fun v => (plainIv v).canon
    have hnb : ∀ x, binO .neq 0 false (.bool x) (.bool x) = some (.bool false) := fun x => by cases x <;> rfl
    refine qa5 (qbf (q6_0 ..) ?_)
    unfold n6_0; dsimp only
    (repeat' first | (with_reducible first | apply qac | apply qa4 | apply qay | apply qaz | apply tp_gs0 | apply tp_gs1 | apply tp_gk | apply qag (b := false) | apply qaa (b := true) | apply qaa (b := false) | apply qat | apply qao | apply qbn) | ((conv => arg 2; arg 1; simp (disch := first | omega | assumption) only [qam, qbb, binO_sub, qa7, qal, qa2, un_not, Bool.not_true, sameAd_refl, qa6, qba, qa8, qbk, qax, List.length_map, hx, hy, cellIv, ivcA, hcn, r16, hs1, hs3, r17, hs2, hnb]); (with_reducible first | apply qac | apply qbr | apply qaa (b := false) | (apply qa0; omega))))
    (refine qaw ?_; (conv => lhs; simp only [qar, qbs, List.take_length, List.map_nil, qa6]); rw [hsh]; have := ih (i + 1) (qbc ht) (by omega); exact this)
theorem law_prints (l : List Iv) (hl : l.length ≤ 100000000) (hv : ∀ v, v ∈ l → IvWell v) (A : St) : f6 (encL 9 (l.map encIv)) A = some (.ret (.bool true), A) := by
  have h1 := fun A => s12 l hl hv A
  have h2 := fun A => s15 l hl hv A
  have h3 := ivs_canon l 9
  have hlo := law_prints_loop l hl (fun v h => (hv v h).ok) A (l.drop 1) 1 rfl (by omega)
  unfold printT at h1 h2
  generalize printP l = x at h1 h2
  obtain ⟨s, n, e⟩ := x
  dsimp only at h1 h2
  unfold f6 n6; dsimp only
  refine qa5 ?_
  (repeat' first | (with_reducible first | apply qac | apply qa4 | apply qay | apply qaz | apply qag (b := false) | apply qaa (b := false) | apply qao | apply qbn | (apply tot_neq_t; omega) | (apply tot_sneq_t; first | assumption | with_reducible rfl)) | ((conv => arg 2; arg 1; simp (disch := first | omega | assumption) only [qam, un_not, Bool.not_true, ext0, extS, r12, h3, h1, r15, h2, awake_is]); (with_reducible first | apply qac | apply qag (b := false) | apply qaa (b := false))))
  (refine qaw ?_; (conv => lhs; simp only []); exact hlo)
end Go.Vm.Rx
