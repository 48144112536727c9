/- RxS29, RxS30, RxS31, RxS32, RxS33, RxS34, RxS60 in one text. -/
import Derived.Test.YtagmpieoalkneaaGreatDoorRxS28
import Derived.Test.YtagmpieoalkneaaGreatDoorRxI6
set_option linter.all false
/- What the program reads of words. -/
namespace Go.Vm.Rx
open Go Go.Proofs P
set_option maxRecDepth 10000
set_option maxHeartbeats 2000000
end Go.Vm.Rx

/- Rows as one row: slices.Concat. -/
namespace Go.Vm.Rx
open Go Go.Proofs P
set_option maxRecDepth 10000
set_option maxHeartbeats 2000000
theorem acc_leave {b : Option Nat} {A : St} {n : Nat} {ds : List D} (h : PlainL ds) : leaveD RetK.own A (.ret (accD b A.length n ds)) (accA b A ds) = some (.ret (accD b A.length n ds), accA b A ds) := by
  cases b with
  | none =>
    have hk : Kept A (A ++ [.tok ds.length]) := (accA_Kept none A ds).2 trivial
    simp [leaveD, accD, accA, guardP, hk, h.shut]
  | some e =>
    have hk : Kept A A := (accA_Kept (some 0) A ds).2 trivial
    simp [leaveD, accD, accA, guardP, hk, Res.shut, h.shut, Own.shut]
end Go.Vm.Rx

/- What the program parses a text as. -/
namespace Go.Vm.Rx
open Go Go.Proofs P
set_option maxRecDepth 10000
set_option maxHeartbeats 4000000
end Go.Vm.Rx

/- Which expressions are the same: both texts' answers. -/
namespace Go.Vm.Rx
open Go Go.Proofs P
set_option maxRecDepth 10000
set_option maxHeartbeats 2000000
theorem s41_loop (A : St) (a b : Rx) (ha : a.Ok) (hb : b.Ok) (hn : a.ks.length = b.ks.length) (hk : ∀ k, k ∈ a.ks → ∀ k', k' ∈ b.ks → ∀ A, f41 (encRx k) (encRx k') A = some (.ret (.bool (k.same k')), A)) :
    ∀ (t t' : List Rx) (i : Nat), a.ks.drop i = t → b.ks.drop i = t' →
    LP Tryz.prog rxA 41 [0, 1, 0, 1, 1] [A] (Env.mk (sp [(2, .ref A.length 0), (0, .ref (A.length + 1) 0), (1, .int .i64 (i : Nat))] 40) []) (A ++ [.cells [.int .i64 a.op, .str a.nm, encL 3 (a.ks.map encRx)], .cells [.int .i64 b.op, .str b.nm, encL 3 (b.ks.map encRx)]]) = some (.ret (.bool (Rx.sames t t')), A) := by
  intro t
  have hl := ha.len
  have hs0 : (D.ref A.length 0).shut (A.length + 2) = .ref A.length 0 := shut_ref _ (by omega)
  have hs1 : (D.ref (A.length + 1) 0).shut (A.length + 2) = .ref (A.length + 1) 0 := shut_ref _ (by omega)
  induction t with
  | nil =>
    intro t' i ht ht'
    have h1 := qbt ht
    have : t' = [] := by rw [← ht']; exact List.drop_eq_nil_of_le (by omega)
    subst this
    refine qa5 (qbf (q41_0 ..) ?_)
    unfold n41_0; dsimp only
    (repeat' first | (with_reducible first | apply qa4 | apply qai | apply qaa (b := false) | apply qao) | ((conv => arg 2; arg 1; simp only [Option.map_some, qas, qah, qa1, qbm, Nat.zero_add, qa6, qba, qa8, qax, qbd, ldc0, List.length_map]); (with_reducible first | apply qac | (apply qa3; omega))))
    ((try conv => arg 2; simp (disch := first | omega | assumption) only [qae, qaq, qap, qad, qan, qab, qaf, List.take_left']); refine qak ?_)
    unfold Rx.sames; rfl
  | cons k t ih =>
    intro t' i ht ht'
    have h1 := qbz ht
    cases t' with
    | nil => have := qbt ht'; omega
    | cons k' t' =>
      have hx := qbw (f := encRx) ht 3 true .i64
      have hx' := qbw (f := encRx) ht' 3 true .i64
      have hkk := hk k (drop_mem ht) k' (drop_mem ht')
      have hih := ih t' (i + 1) (qbc ht) (qbc ht')
      refine qa5 (qbf (q41_0 ..) ?_)
      unfold n41_0; dsimp only
      unfold Rx.sames
      cases hq : k.same k'
      · rw [hq] at hkk
        (repeat' first | (with_reducible first | apply qa4 | apply qaz | apply qai | apply qaa (b := true) | apply qat) | ((conv => arg 2; arg 1; simp (disch := first | omega | assumption) only [Option.map_some, qas, qah, qa2, qa1, qbm, Nat.zero_add, ofA3, un_not, Bool.not_false, qa6, qba, qa8, qbk, qax, ld_sh, qbd, ldc0, ldcS, List.length_map, hx, hx', rx_cell, rx_fold, qbp, r41, hkk]); (with_reducible first | apply qac | (apply qa0; omega))))
        ((try conv => arg 2; simp (disch := first | omega | assumption) only [qae, qaq, qap, qad, qan, qab, qaf, List.take_left']); refine qak ?_)
        rfl
      · rw [hq] at hkk
        (repeat' first | (with_reducible first | apply qa4 | apply qaz | apply tp_gk | apply qaa (b := true) | apply qaa (b := false) | apply qat | apply qao) | ((conv => arg 2; arg 1; simp (disch := first | omega | assumption) only [qbb, qa7, qal, qah, qa2, qa1, qbm, Nat.zero_add, ofA3, un_not, Bool.not_true, qa6, qba, qa8, qbk, qax, ld_sh, qbd, ldc0, ldcS, List.length_map, hx, hx', rx_cell, rx_fold, qbp, r41, hkk]); (with_reducible first | apply qac | apply qbr | (apply qa0; omega))))
        conv => arg 2; simp (disch := first | omega | assumption) only [qar, qbs, List.map_nil, Nat.zero_add, List.length_append, List.length_cons, List.length_nil, qa6, qba, qa8, Nat.reduceAdd, take_n2, hs0, hs1]
        refine qaw ?_
        simpa using hih
theorem s41 : ∀ (a : Rx) (ha : a.Ok) (b : Rx) (hb : b.Ok) (A : St), f41 (encRx a) (encRx b) A = some (.ret (.bool (a.same b)), A) := by
  refine Rx.ind ?_
  intro a ih ha b hb A
  have hla := ha.len; have hlb := hb.len
  have hlm : ∀ r : Rx, ((r.ks.map encRx).length : Int) = (r.ks.length : Int) := fun r => by simp
  unfold f41 n41; dsimp only
  rw [Rx.same_eq]
  refine qa5 ?_
  by_cases h1 : a.op = b.op
  · by_cases h2 : a.nm = b.nm
    · by_cases h3 : a.ks.length = b.ks.length
      · have := s41_loop A a b ha hb h3 (fun k hk k' hk' A => ih k hk (ha.kid hk) k' (hb.kid hk') A) a.ks b.ks 0 rfl rfl
        (repeat' first | (with_reducible first | apply qa4 | apply qay | apply qag (b := false) | apply qaa (b := false) | apply qao | apply qbn | (apply tot_neq_t; omega) | (apply tot_sneq_t; first | assumption | with_reducible rfl)) | ((conv => arg 2; arg 1; simp (disch := first | omega | assumption) only [qam, qah, qa1, qbm, Nat.zero_add, Nat.add_zero, List.length_append, List.length_cons, List.length_nil, qax, app_one, app_nil', qb0, ld_sh, qbd, ldc0, ldcS, List.length_map, rx_box, h1, h2, h3]); (with_reducible first | apply qac | apply qag (b := false) | apply qaa (b := false))))
        (refine qaw ?_; (conv => lhs; simp only []); rw [decide_eq_true h1, decide_eq_true h2]; simpa [h1, h2, h3] using this)
      · rw [Rx.sames_len h3]
        (repeat' first | (with_reducible first | apply qa4 | apply qay | apply qai | apply qag (b := false) | apply qaa (b := false) | apply qat | apply qbn | (apply tot_neq_t; omega) | (apply tot_neq_f; omega) | (apply tot_sneq_t; first | assumption | with_reducible rfl)) | ((conv => arg 2; arg 1; simp (disch := first | omega | assumption) only [qam, qah, qa1, qbm, Nat.zero_add, Nat.add_zero, List.length_append, List.length_cons, List.length_nil, qax, app_one, app_nil', qb0, ld_sh, qbd, ldc0, ldcS, List.length_map, rx_box, h1, h2]); (with_reducible first | apply qac | apply qag (b := false) | apply qaa (b := true) | apply qaa (b := false))))
        ((try conv => arg 2; simp (disch := first | omega | assumption) only [qae, qaq, qap, qad, qan, qab, qaf, List.take_left']); refine qak ?_)
        simp
    · rw [decide_eq_false h2]
      (repeat' first | (with_reducible first | apply qac | apply qa4 | apply qay | apply qai | apply qag (b := false) | apply qaa (b := false) | apply qat | apply qb1 | apply qbn | (apply tot_neq_t; omega) | (apply tot_sneq_f; first | assumption | decide | exact List.cons_ne_nil _ _)) | ((conv => arg 2; arg 1; simp (disch := first | omega | assumption) only [qav, qam, qah, qa1, qbm, Nat.zero_add, Nat.add_zero, List.length_append, List.length_cons, List.length_nil, app_one, app_nil', qb0, ld_sh, qbd, ldc0, ldcS, rx_box, h1]); (with_reducible first | apply qac | apply qag (b := true) | apply qaa (b := true))))
      ((try conv => arg 2; simp (disch := first | omega | assumption) only [qae, qaq, qap, qad, qan, qab, qaf, List.take_left']); refine qak ?_)
      simp
  · rw [decide_eq_false h1]
    (repeat' first | (with_reducible first | apply qac | apply qa4 | apply qay | apply qai | apply qag (b := true) | apply qaa (b := true) | apply qat | apply qb1 | (apply tot_neq_f; omega)) | ((conv => arg 2; arg 1; simp (disch := first | omega | assumption) only [qav, qah, qa1, Nat.zero_add, Nat.add_zero, List.length_append, List.length_cons, List.length_nil, app_one, app_nil', qb0, ld_sh, qbd, ldc0, ldcS, rx_box]); (with_reducible first | apply qac | apply qag (b := true) | apply qaa (b := true))))
    ((try conv => arg 2; simp (disch := first | omega | assumption) only [qae, qaq, qap, qad, qan, qab, qaf, List.take_left']); refine qak ?_)
    simp
end Go.Vm.Rx

/- Which expressions are the same: the program's answer. -/
namespace Go.Vm.Rx
open Go Go.Proofs P
set_option maxRecDepth 10000
set_option maxHeartbeats 2000000
theorem s84_loop (A : St) (a b : Rx) (ha : a.Ok) (hb : b.Ok) (hn : a.ks.length = b.ks.length) (hk : ∀ k, k ∈ a.ks → ∀ k', k' ∈ b.ks → ∀ A, f39 (encRx k) (encRx k') A = some (.ret (.bool (k.same k')), A)) :
    ∀ (t t' : List Rx) (i : Nat), a.ks.drop i = t → b.ks.drop i = t' →
    LP Tryz.prog rxA 84 [0, 1, 0, 1, 1] [A] (Env.mk (sp [(1, encL 3 (b.ks.map encRx)), (0, .fn (.func 39) [] []), (12, encL 3 (a.ks.map encRx)), (0, .int .i64 (a.ks.length : Nat)), (0, .int .i64 (i : Nat))] 14) []) A = some (.ret (.bool (Rx.sames t t')), A) := by
  intro t
  have hl := ha.len
  induction t with
  | nil =>
    intro t' i ht ht'
    have h1 := qbt ht
    have : t' = [] := by rw [← ht']; exact List.drop_eq_nil_of_le (by omega)
    subst this
    refine qa5 (qbf (q84_0 ..) ?_)
    unfold n84_0; dsimp only
    (repeat' first | (with_reducible first | apply qai | apply qaa (b := false) | apply qao) | ((conv => arg 2; arg 1; simp only [Option.map_some, qas, qa6, qba, qa8]); (with_reducible first | apply qac | (apply qa3; omega))))
    ((try conv => arg 2; simp only [qae, qaq, qal, qad, List.take_length, qan, qab, qaf]); refine qak ?_)
    unfold Rx.sames; rfl
  | cons k t ih =>
    intro t' i ht ht'
    have h1 := qbz ht
    cases t' with
    | nil => have := qbt ht'; omega
    | cons k' t' =>
      have hx := qbw (f := encRx) ht 3 true .i64
      have hx' := qbw (f := encRx) ht' 3 true .i64
      have hkk := hk k (drop_mem ht) k' (drop_mem ht')
      have hih := ih t' (i + 1) (qbc ht) (qbc ht')
      have hcl : ∀ B, applyD (Run Tryz.prog rxA) (.fn (.func 39) [] []) [encRx k, encRx k'] B = some (.ret (.bool (k.same k')), B) := fun B => by
        rw [app_fn]
        show Run Tryz.prog rxA 39 [encRx k, encRx k'] B = _
        rw [r39, qbp, qbp]
        exact hkk B
      have hshf : ∀ n, (D.fn (.func 39) [] []).shut n = .fn (.func 39) [] [] := fun _ => by simp [D.shut, D.shutL]
      refine qa5 (qbf (q84_0 ..) ?_)
      unfold n84_0; dsimp only
      unfold Rx.sames
      cases hq : k.same k'
      · rw [hq] at hcl
        (repeat' first | (with_reducible first | apply qa4 | apply qaz | apply qai | apply qaa (b := true) | apply qat) | ((conv => arg 2; arg 1; simp (disch := first | omega | assumption) only [Option.map_some, qas, qa2, Nat.zero_add, alloc_eq, ofA3, List.length_append, List.length_cons, List.length_nil, un_not, Bool.not_false, qa6, qba, qa8, qbk, app_one, app_nil', qb0, ld_sh, qbd, ldc0, ldcS, sto_sh, sto_sh0, stoc0, stocS, hx, hx', rx_cell, rx_lay, rx_fold, hcl]); (with_reducible first | apply qac | (apply qa0; omega))))
        ((try conv => arg 2; simp (disch := first | omega | assumption) only [qae, qaq, qap, qad, qan, qab, qaf, List.take_left']); refine qak ?_)
        rfl
      · rw [hq] at hcl
        (repeat' first | (with_reducible first | apply qa4 | apply qaz | apply tp_gk | apply qaa (b := true) | apply qaa (b := false) | apply qat | apply qao) | ((conv => arg 2; arg 1; simp (disch := first | omega | assumption) only [qbb, qa7, qap, qa2, Nat.zero_add, alloc_eq, ofA3, List.length_append, List.length_cons, List.length_nil, un_not, Bool.not_true, qa6, qba, qa8, qbk, app_one, app_nil', qb0, ld_sh, qbd, ldc0, ldcS, sto_sh, sto_sh0, stoc0, stocS, hx, hx', rx_cell, rx_lay, rx_fold, hcl]); (with_reducible first | apply qac | apply qbr | (apply qa0; omega))))
        conv => arg 2; simp (disch := first | omega | assumption) only [qar, qbs, List.map_nil, qa6, qba, qa8, List.take_left', rxs_shut, hshf]
        refine qaw ?_
        simpa using hih
theorem s84 (A : St) (a b : Rx) (ha : a.Ok) (hb : b.Ok) (hk : ∀ k, k ∈ a.ks → ∀ k', k' ∈ b.ks → ∀ A, f39 (encRx k) (encRx k') A = some (.ret (.bool (k.same k')), A)) :
    f84 (encL 3 (a.ks.map encRx)) (encL 3 (b.ks.map encRx)) (.fn (.func 39) [] []) A = some (.ret (.bool (Rx.sames a.ks b.ks)), A) := by
  have hla := ha.len; have hlb := hb.len
  unfold f84 n84; dsimp only
  refine qa5 ?_
  by_cases h3 : a.ks.length = b.ks.length
  · have := s84_loop A a b ha hb h3 hk a.ks b.ks 0 rfl rfl
    have h4 : (a.ks.length : Int) = b.ks.length := by omega
    rw [h3] at this
    (repeat' first | (with_reducible first | apply qaa (b := false) | apply qao | (apply tot_neq_t; omega)) | ((conv => arg 2; arg 1; simp (disch := first | omega | assumption) only [qax, List.length_map, h3]); (with_reducible apply qac)))
    (refine qaw ?_; (conv => lhs; simp only []); exact this)
  · rw [Rx.sames_len h3]
    (repeat' first | (with_reducible first | apply qai | apply qaa (b := true) | apply qat | (apply tot_neq_f; omega)) | ((conv => arg 2; arg 1; simp only [qax, List.length_map]); (with_reducible apply qac)))
    ((try conv => arg 2; simp only [qae, qaq, qal, qad, List.take_length, qan, qab, qaf]); refine qak ?_)
    rfl
theorem s39 : ∀ (a : Rx) (ha : a.Ok) (b : Rx) (hb : b.Ok) (A : St), f39 (encRx a) (encRx b) A = some (.ret (.bool (a.same b)), A) := by
  refine Rx.ind ?_
  intro a ih ha b hb A
  have he := fun A => s84 A a b ha hb (fun k hk k' hk' A => ih k hk (ha.kid hk) k' (hb.kid hk') A)
  have hcf : (D.fn (.func 39) [] []).canon = .fn (.func 39) [] [] := rfl
  unfold f39 n39; dsimp only
  rw [Rx.same_eq]
  refine qa5 ?_
  by_cases h1 : a.op = b.op
  · by_cases h2 : a.nm = b.nm
    · (repeat' first | (with_reducible first | apply qa4 | apply qay | apply qaz | apply qai | apply qag (b := true) | apply qaa (b := true) | apply qbe | (apply qbo; omega) | (apply tot_seql_t; first | assumption | with_reducible rfl)) | ((conv => arg 2; arg 1; simp (disch := first | omega | assumption) only [qav, qah, qa1, qbm, Nat.zero_add, Nat.add_zero, List.length_append, List.length_cons, List.length_nil, app_one, app_nil', qb0, ld_sh, qbd, ldc0, ldcS, rx_box, h1, h2, r84, rxs_canon, hcf, he]); (with_reducible first | apply qac | apply qag (b := true) | apply qaa (b := true))))
      ((try conv => arg 2; simp (disch := first | omega | assumption) only [qav, qae, qaq, qap, qad, qan, qab, qaf, List.take_left']); refine qak ?_)
      simp [h1, h2]
    · rw [decide_eq_false h2]
      (repeat' first | (with_reducible first | apply qac | apply qa4 | apply qay | apply qaz | apply qai | apply qag (b := true) | apply qaa (b := true) | apply qbe | apply qbj | (apply qbo; omega) | (apply tot_seql_f; first | assumption | decide | exact List.cons_ne_nil _ _)) | ((conv => arg 2; arg 1; simp (disch := first | omega | assumption) only [qav, qah, qa1, qbm, Nat.zero_add, Nat.add_zero, List.length_append, List.length_cons, List.length_nil, app_one, app_nil', qb0, ld_sh, qbd, ldc0, ldcS, rx_box, h1]); (with_reducible first | apply qac | apply qag (b := false) | apply qaa (b := false))))
      ((try conv => arg 2; simp (disch := first | omega | assumption) only [qam, qae, qaq, qap, qad, qan, qab, qaf, List.take_left']); refine qak ?_)
      simp
  · rw [decide_eq_false h1]
    (repeat' first | (with_reducible first | apply qac | apply qa4 | apply qay | apply qaz | apply qai | apply qag (b := false) | apply qaa (b := false) | apply qbj | (apply qbv; omega)) | ((conv => arg 2; arg 1; simp (disch := first | omega | assumption) only [qam, qah, qa1, Nat.zero_add, Nat.add_zero, List.length_append, List.length_cons, List.length_nil, app_one, app_nil', qb0, ld_sh, qbd, ldc0, ldcS, rx_box]); (with_reducible first | apply qac | apply qag (b := false) | apply qaa (b := false))))
    ((try conv => arg 2; simp (disch := first | omega | assumption) only [qam, qae, qaq, qap, qad, qan, qab, qaf, List.take_left']); refine qak ?_)
    simp
end Go.Vm.Rx

/- Laws of path expressions: what texts and words are read as, which expressions are the same. -/
namespace Go.Vm.Rx
open Go Go.Proofs P
set_option maxRecDepth 10000
set_option maxHeartbeats 4000000
end Go.Vm.Rx

/- Cubes, numbers, signs: what both texts say of them. -/
namespace Go.Vm.Rx
open Go Go.Proofs P
set_option maxRecDepth 10000
set_option maxHeartbeats 2000000
theorem s49_loop (s : Str) (hs : s.length < 4611686018427387904) (A : St) : ∀ (t : Str) (i : Nat), s.drop i = t →
    LP Tryz.prog rxA 49 [0, 1, 0, 1] [A] (Env.mk (sp [(0, .str s), (2, .int .i64 (i : Nat))] 29) []) A = some (.ret (.bool (t.all cubeB && decide (s ≠ []) && decide (s.length ≤ 128))), A) := by
  intro t
  induction t with
  | nil =>
    intro i ht
    have hl := qbt ht
    refine qa5 (qbf (q49_0 ..) ?_)
    unfold n49_0; dsimp only
    (repeat' first | (with_reducible first | apply qac | apply qa4 | apply qay | apply qai | apply qag (b := true) | apply qag (b := false) | apply qaa (b := true) | apply qaa (b := false) | apply qao | apply qbe | apply qbj | (apply tot_leq; all_goals intro hsp)) | ((conv => arg 2; arg 1; simp only [qav, qam, Option.map_some, qas, qbu, qa6, qba, qa8]); (with_reducible first | apply qac | (apply qa3; omega) | (apply tot_sneq; all_goals intro hsp))))
    all_goals (((try conv => arg 2; simp only [qae, qaq, qal, qad, List.take_length, qan, qab, qaf]); refine qak ?_); simp [*] <;> omega)
  | cons c t ih =>
    intro i ht
    have hl := qbz ht
    refine qa5 (qbf (q49_0 ..) ?_)
    unfold n49_0; dsimp only
    have hx := Vm.idxStr ht .i64
    have hc : cubeB c = decide (c.toNat = 48 ∨ c.toNat = 49 ∨ c.toNat = 120) := rfl
    (repeat' first | (with_reducible first | apply qac | apply qa4 | apply qay | apply tp_gk | apply qai | apply qag (b := true) | apply qag (b := false) | apply qaa (b := true) | apply qaa (b := false) | apply qat | apply qao | apply qbe | apply qbj | (apply tot_neq; all_goals intro hsp)) | ((conv => arg 2; arg 1; simp (disch := first | omega | assumption) only [qav, qam, Option.map_some, qbb, qa7, qal, qas, qbu, qa6, qba, qa8, hx]); (with_reducible first | apply qac | apply qbr | apply qag (b := true) | apply qag (b := false) | apply qaa (b := true) | apply qaa (b := false) | (apply qa0; omega))))
    all_goals first
      | (((try conv => arg 2; simp only [qae, qaq, qal, qad, List.take_length, qan, qab, qaf]); refine qak ?_); simp only [List.all_cons, hc]; rw [decide_eq_false (by omega)]; simp; done)
      | (refine qaw ?_; (conv => lhs; simp only [qar, qbs, qbx, List.take_length, List.map_nil, qa6]); have := ih (i + 1) (qbc ht); simp only [List.all_cons, hc]; rw [decide_eq_true (by omega), Bool.true_and]; exact this)
theorem s49 (s : Str) (hs : s.length < 4611686018427387904) (A : St) : f49 (.str s) A = some (.ret (.bool (isCube s)), A) := by
  unfold f49 n49; dsimp only
  refine qa5 ?_
  skip
  (refine qaw ?_; (conv => lhs; simp only []); exact s49_loop s hs A s 0 rfl)
theorem s119_loop (s : Str) (hs : s.length < 4611686018427387904) (A : St) : ∀ (t : Str) (i : Nat), s.drop i = t → i ≤ s.length →
    LP Tryz.prog rxA 119 [0, 1, 0, 1, 1] [A] (Env.mk (sp [(0, .str s), (0, .str [48, 49, 120]), (13, .int .i64 (s.length : Nat)), (0, .int .i64 (i : Nat))] 9) []) A = some (.ret (.bool (t.all cubeB)), A) := by
  intro t
  induction t with
  | nil =>
    intro i ht _
    have hl := qbt ht
    refine qa5 (qbf (q119_0 ..) ?_)
    unfold n119_0; dsimp only
    (repeat' first | (with_reducible first | apply qai | apply qaa (b := false) | apply qao) | ((conv => arg 2; arg 1; simp only [Option.map_some, qas, qa6, qba, qa8]); (with_reducible first | apply qac | (apply qa3; omega))))
    all_goals (((try conv => arg 2; simp only [qae, qaq, qal, qad, List.take_length, qan, qab, qaf]); refine qak ?_); rfl)
  | cons c t ih =>
    intro i ht _
    have hl := qbz ht
    refine qa5 (qbf (q119_0 ..) ?_)
    unfold n119_0; dsimp only
    have hx := Vm.idxStr ht .i64
    have hc : cubeB c = decide (0 ≤ Lib.indexByte [48, 49, 120] c) := by
      rw [← idx_contains]
      unfold cubeB
      simp only [List.contains_cons, List.contains_nil, Bool.or_false]
      rw [Bool.eq_iff_iff]
      simp [byte_eq]
    (repeat' first | (with_reducible first | apply qaz | apply tp_gk | apply qai | apply qaa (b := true) | apply qaa (b := false) | apply qat | apply qao | (apply tot_lss; all_goals intro hsp)) | ((conv => arg 2; arg 1; simp (disch := first | omega | assumption) only [Option.map_some, qbb, qa7, qal, qas, qa6, qba, qa8, qaj, qau, r139, s139, hx]); (with_reducible first | apply qac | apply qbr | (apply qa0; omega))))
    all_goals first
      | (((try conv => arg 2; simp only [qae, qaq, qal, qad, List.take_length, qan, qab, qaf]); refine qak ?_); simp only [List.all_cons, hc]; rw [decide_eq_false (by omega)]; simp; done)
      | (refine qaw ?_; (conv => lhs; simp only [qar, qbs, qbx, List.take_length, List.map_nil, qa6, qba, qa8]); have := ih (i + 1) (qbc ht) (by omega); simp only [List.all_cons, hc]; rw [decide_eq_true (by omega), Bool.true_and]; exact this)
theorem isCube_long {s : Str} (h : 128 < s.length) : isCube s = false := by
  unfold isCube
  rw [decide_eq_false (by omega : ¬ s.length ≤ 128)]; simp
theorem isCube_all {s : Str} (h : 1 ≤ s.length) (h2 : s.length ≤ 128) : isCube s = s.all cubeB := by
  unfold isCube
  rw [decide_eq_true h2, decide_eq_true (by intro e; simp [e] at h)]; simp
theorem s119 (s : Str) (hs : s.length < 4611686018427387904) (A : St) : f119 (.str s) (.str [48, 49, 120]) A = some (.ret (.bool (isCube s)), A) := by
  unfold f119 n119; dsimp only
  have := s119_loop s hs A s 0 rfl (by omega)
  refine qa5 ?_
  by_cases h1 : 1 ≤ s.length
  · by_cases h2 : s.length ≤ 128
    · (repeat' first | (with_reducible first | apply qac | apply qa4 | apply qay | apply qag (b := false) | apply qaa (b := false) | apply qao | apply qbn | (apply qa3; omega) | (apply tot_gtr_f; omega)) | ((conv => arg 2; arg 1; simp only [qam, qbu]); (with_reducible first | apply qac | apply qaa (b := false))))
      (refine qaw ?_; (conv => lhs; simp only []); rw [isCube_all h1 h2]; exact this)
    · (repeat' first | (with_reducible first | apply qac | apply qa4 | apply qay | apply qai | apply qag (b := false) | apply qaa (b := false) | apply qat | apply qbn | (apply qa3; omega) | (apply tot_gtr_t; omega)) | ((conv => arg 2; arg 1; simp only [qam, qbu]); (with_reducible first | apply qac | apply qaa (b := true))))
      ((try conv => arg 2; simp only [qae, qaq, qal, qad, List.take_length, qan, qab, qaf]); refine qak ?_)
      rw [isCube_long (by omega)]
  · have : s = [] := by cases s with | nil => rfl | cons => simp at h1
    subst this
    (repeat' first | (with_reducible first | apply qac | apply qa4 | apply qay | apply qai | apply qag (b := true) | apply qaa (b := true) | apply qat | apply qb1 | (apply qa0; omega)) | ((conv => arg 2; arg 1; simp only [qav, qbu, List.length_nil]); (with_reducible first | apply qac | apply qaa (b := true))))
    ((try conv => arg 2; simp only [qae, qaq, qal, qad, List.take_length, qan, qab, qaf]); refine qak ?_)
    rfl
theorem s80 (s : Str) (hs : s.length < 4611686018427387904) (A : St) : f80 (encL 1 [.str s]) A = some (if isCube s = true then (.ret (.tup []), A) else (.pan (.iface 179 (.agg [.int .i64 10])), A)) := by
  have hof := fun A => s119 s hs A
  have hla : layCells false 1 0 [D.int .i64 0] (D.int .i64 10) = some [.int .i64 10] := rfl
  have hix : indexAddrO 1 false (encL 1 [.str s]) (.int .i64 0) = some (.peek [.str s]) := rfl
  have hsh : ∀ n, (encL 1 [D.str s]).shut n = encL 1 [D.str s] := fun n => by simp [encL]
  unfold f80 n80; dsimp only
  refine qa5 ?_
  (repeat' first | ((conv => arg 2; arg 1; simp only [Nat.zero_add, List.length_cons, List.length_nil, qax]); (with_reducible apply qac)))
  refine qbf (q80_0 ..) ?_
  unfold n80_0; dsimp only
  cases h : isCube s
  · rw [h] at hof
    (repeat' first | (with_reducible first | (apply tot_jn; intro hkk hke) | apply qac | apply tp_bnbn | apply qa4 | apply qaz | apply qaa (b := true) | apply qat) | ((conv => arg 2; arg 1; simp (disch := first | omega | assumption) only [qa2, qa1, un_not, Bool.not_false, qau, eg_0, eg_S, hix, r119, hof, hla]); (with_reducible first | apply qac | (apply qa0; omega))))
    ((try conv => arg 2; simp only [bn_some, qae, qal, Res_shut_pan, leaves_pan, List.take_length, leaveM_mL, Res_canon_pan, qaf, eg_0, eg_S]); refine qak ?_)
    rfl
  · rw [h] at hof
    (repeat' first | (with_reducible first | (apply tot_jn; intro hkk hke) | (apply tot_jk; · assumption) | apply qa4 | apply qaz | apply tp_gk | apply qaa (b := true) | apply qaa (b := false) | apply qat | apply qao) | ((conv => arg 2; arg 1; simp (disch := first | omega | assumption) only [qbb, qa7, qal, qa2, qa1, un_not, Bool.not_true, qau, Int.reduceAdd, eg_0, eg_S, hix, r119, hof]); (with_reducible first | apply qac | apply qbr | (apply qa0; omega))))
    refine qbf (q80_0 ..) ?_
    unfold n80_0; dsimp only
    (repeat' first | (with_reducible first | apply qaa (b := false) | apply qao) | ((conv => arg 2; arg 1; simp (disch := first | omega | assumption) only [qar, qbs, List.map_nil, Nat.zero_add, List.length_cons, List.length_nil, qax, eg_0, eg_S, hsh]); (with_reducible first | apply qac | (apply qa3; omega))))
    refine qbf (q80_1 ..) ?_
    unfold n80_1; dsimp only
    (repeat' first | (with_reducible first | (apply tot_jn; intro hkk hke) | (apply tot_jk; · assumption) | apply qa4 | apply tp_gk | apply qaa (b := true) | apply qaa (b := false) | apply qat | apply qao | (apply tot_neq_t; omega)) | ((conv => arg 2; arg 1; simp (disch := first | omega | assumption) only [qbb, qa7, qar, qbs, qal, qbu, qa2, qa1, List.take_length, List.map_nil, Int.reduceAdd, eg_0, eg_S, hix, hsh]); (with_reducible first | apply qac | apply qbr | (apply qa0; omega))))
    refine qbf (q80_1 ..) ?_
    unfold n80_1; dsimp only
    (repeat' first | (with_reducible first | apply qai | apply qaa (b := false) | apply qao) | ((conv => arg 2; arg 1; simp (disch := first | omega | assumption) only [Option.map_some, qar, qbs, qas, List.take_length, List.map_nil, eg_0, eg_S, hsh]); (with_reducible first | apply qac | (apply qa3; omega))))
    ((try conv => arg 2; simp only [qae, qby, qbl, qal, qad, List.take_length, qbq, qbh, qab, qaf]); refine qak ?_)
    rfl
end Go.Vm.Rx
