/- RxS32, RxS33, RxS34 in one text. -/
import Derived.Test.YtmaipfiikbcfmaaDoorRxS31
set_option linter.all false
/- Which expressions are the same: both texts' answers. -/
namespace Go.Vm.Rx
open Go Go.Proofs P
set_option linter.unusedVariables false
set_option linter.unusedSimpArgs false
set_option linter.unusedSectionVars false
set_option maxRecDepth 10000
set_option maxHeartbeats 2000000
theorem s11_loop (A : St) (a b : Rx) (ha : a.Ok) (hb : b.Ok) (hn : a.ks.length = b.ks.length) (hk : ∀ k, k ∈ a.ks → ∀ k', k' ∈ b.ks → ∀ A, f11 mL (Run Tryd.prog rxA) (Dcall Tryd.prog rxA) (encRx k) (encRx k') A = some (.ret (.bool (k.same k')), A)) :
    ∀ (t t' : List Rx) (i : Nat), a.ks.drop i = t → b.ks.drop i = t' →
    iterK (f11_s0 mL (Run Tryd.prog rxA) (Dcall Tryd.prog rxA) A) (Env.mk (sp [(2, .ref A.length 0), (0, .ref (A.length + 1) 0), (1, .int .i64 (i : Nat))] 40) []) (A ++ [.cells [.int .i64 a.op, .str a.nm, encL 3 (a.ks.map encRx)], .cells [.int .i64 b.op, .str b.nm, encL 3 (b.ks.map encRx)]]) = some (.ret (.bool (Rx.sames t t')), A) := by
  intro t
  have hl := ha.len
  have hs0 : (D.ref A.length 0).shut (A.length + 2) = .ref A.length 0 := shut_ref _ (by omega)
  have hs1 : (D.ref (A.length + 1) 0).shut (A.length + 2) = .ref (A.length + 1) 0 := shut_ref _ (by omega)
  induction t with
  | nil =>
    intro t' i ht ht'
    have h1 := drop_len ht
    have : t' = [] := by rw [← ht']; exact List.drop_eq_nil_of_le (by omega)
    subst this
    refine Tot.eq (Tot.iter ?_)
    conv => arg 2; arg 1; unfold f11_s0
    (repeat' first | (with_reducible first | apply Tot.of (qaq rfl) | apply Tot.of (qba rfl) | apply Tot.of (qa3 rfl) | apply Tot.of (qah rfl) | apply Tot.of (st_inr rfl) | apply Tot.of (qa0 rfl) | apply Tot.bql (b := false) | apply Tot.iff) | ((conv => arg 2; arg 1; simp (disch := first | omega | assumption) only [qac, Option.map_some, qau, qaj, qad, qal, qaf, qa4, ofCellsS, Nat.zero_add, qa5, qbb, qbe, qap, qab, qae, len_encL, qa9, ldc0, List.take_left', List.length_map]); (with_reducible first | apply Tot.of (qaa rfl) | (apply Tot.lss_f; omega))))
    ((try conv => arg 2; simp (disch := first | omega | assumption) only []); refine Tot.ret ?_)
    unfold Rx.sames; rfl
  | cons k t ih =>
    intro t' i ht ht'
    have h1 := drop_lt ht
    cases t' with
    | nil => have := drop_len ht'; omega
    | cons k' t' =>
      have hx := idx_drop (f := encRx) ht 3 true .i64
      have hx' := idx_drop (f := encRx) ht' 3 true .i64
      have hkk := hk k (drop_mem ht) k' (drop_mem ht')
      have hih := ih t' (i + 1) (drop_succ ht) (drop_succ ht')
      refine Tot.eq (Tot.iter ?_)
      conv => arg 2; arg 1; unfold f11_s0
      unfold Rx.sames
      cases hq : k.same k'
      · rw [hq] at hkk
        (repeat' first | (with_reducible first | apply Tot.of (qaq rfl) | apply Tot.of (qba rfl) | apply Tot.of (qa3 rfl) | apply Tot.of (qah rfl) | apply Tot.of (qav rfl) | apply Tot.of (st_bnguard rfl) | apply Tot.of (qas rfl) | apply Tot.of (st_inr rfl) | apply Tot.of (st_guard rfl) | apply Tot.of (st_bngs rfl) | apply Tot.of (qa0 rfl) | apply Tot.bql (b := true) | apply Tot.ift) | ((conv => arg 2; arg 1; simp (disch := first | omega | assumption) only [qac, Option.map_some, qau, qaj, qad, qal, qaf, qbf, qa4, ofCellsS, Nat.zero_add, ofA3, un_not, Bool.not_false, qa5, qbb, qbe, qaz, qap, qab, qae, len_encL, ld_sh, qa9, ldc0, ldcS, List.take_left', List.length_map, hx, hx', rx_cell, qbd, qa7, r11, hkk]); (with_reducible first | apply Tot.of (qaa rfl) | (apply Tot.lss_t; omega))))
        ((try conv => arg 2; simp (disch := first | omega | assumption) only []); refine Tot.ret ?_)
        rfl
      · rw [hq] at hkk
        (repeat' first | (with_reducible first | apply Tot.of (qaa rfl) | apply Tot.of (qaq rfl) | apply Tot.of (qa3 rfl) | apply Tot.of (qah rfl) | apply Tot.of (qav rfl) | apply Tot.of (st_bnguard rfl) | apply Tot.of (qas rfl) | apply Tot.of (st_inl rfl) | apply Tot.of (st_guard rfl) | apply Tot.of (st_bngs rfl) | apply Tot.of (st_bngk rfl) | apply Tot.bql (b := true) | apply Tot.bql (b := false) | apply Tot.ift | apply Tot.iff) | ((conv => arg 2; arg 1; simp (disch := first | omega | assumption) only [binO_add, qbi, qa2, qaf, qbf, qa4, ofCellsS, Nat.zero_add, ofA3, un_not, Bool.not_true, qa5, qbb, qbe, qaz, qai, len_encL, ld_sh, qa9, ldc0, ldcS, List.length_map, hx, hx', rx_cell, qbd, qa7, r11, hkk]); (with_reducible first | apply Tot.of (qaa rfl) | apply Tot.of (st_guard rfl) | (apply Tot.lss_t; omega))))
        conv => arg 2; simp (disch := first | omega | assumption) only [qao, List.map_nil, Nat.zero_add, List.length_append, List.length_cons, List.length_nil, qa5, qbb, qbe, Nat.reduceAdd, take_n2, hs0, hs1]
        refine Tot.of_eq ?_
        simpa using hih
theorem s11 : ∀ (a : Rx) (ha : a.Ok) (b : Rx) (hb : b.Ok) (A : St), f11 mL (Run Tryd.prog rxA) (Dcall Tryd.prog rxA) (encRx a) (encRx b) A = some (.ret (.bool (a.same b)), A) := by
  refine Rx.ind ?_
  intro a ih ha b hb A
  have hla := ha.len; have hlb := hb.len
  have hlm : ∀ r : Rx, ((r.ks.map encRx).length : Int) = (r.ks.length : Int) := fun r => by simp
  unfold f11
  rw [Rx.same_eq]
  refine Tot.eq ?_
  by_cases h1 : a.op = b.op
  · by_cases h2 : a.nm = b.nm
    · by_cases h3 : a.ks.length = b.ks.length
      · have := s11_loop A a b ha hb h3 (fun k hk k' hk' A => ih k hk (ha.kid hk) k' (hb.kid hk') A) a.ks b.ks 0 rfl rfl
        (repeat' first | (with_reducible first | apply Tot.of (qa3 rfl) | apply Tot.of (qah rfl) | apply Tot.of (st_it rfl) | apply Tot.gbl (b := false) | apply Tot.bql (b := false) | apply Tot.iff | apply Tot.ifff | (apply Tot.neq_t; omega) | (apply Tot.sneq_t; first | assumption | with_reducible rfl)) | ((conv => arg 2; arg 1; simp (disch := first | omega | assumption) only [qaw, qaf, qa4, ofCellsS, Nat.zero_add, Nat.add_zero, List.length_append, List.length_cons, List.length_nil, len_encL, app_one, qbj, qbc, ld_sh, qa9, ldc0, ldcS, List.length_map, rx_box, h1, h2, h3]); (with_reducible first | apply Tot.of (qaa rfl) | apply Tot.gbl (b := false) | apply Tot.bql (b := false))))
        (refine Tot.of_eq ?_; (conv => lhs; simp (disch := first | omega | assumption) only [qai]); rw [decide_eq_true h1, decide_eq_true h2]; simpa [h1, h2, h3] using this)
      · rw [Rx.sames_len h3]
        (repeat' first | (with_reducible first | apply Tot.of (qa3 rfl) | apply Tot.of (qah rfl) | apply Tot.of (qak rfl) | apply Tot.gbl (b := false) | apply Tot.bql (b := false) | apply Tot.ift | apply Tot.ifff | (apply Tot.neq_t; omega) | (apply Tot.neq_f; omega) | (apply Tot.sneq_t; first | assumption | with_reducible rfl)) | ((conv => arg 2; arg 1; simp (disch := first | omega | assumption) only [qaw, qaf, qa4, ofCellsS, Nat.zero_add, Nat.add_zero, List.length_append, List.length_cons, List.length_nil, len_encL, app_one, qbj, qbc, ld_sh, qa9, ldc0, ldcS, List.length_map, rx_box, h1, h2]); (with_reducible first | apply Tot.of (qaa rfl) | apply Tot.gbl (b := false) | apply Tot.bql (b := true) | apply Tot.bql (b := false))))
        ((try conv => arg 2; simp (disch := first | omega | assumption) only [qac, qau, qaj, qad, qap, qab, qae, List.take_left']); refine Tot.ret ?_)
        simp
    · rw [decide_eq_false h2]
      (repeat' first | (with_reducible first | apply Tot.of (qaa rfl) | apply Tot.of (qa3 rfl) | apply Tot.of (qah rfl) | apply Tot.of (qak rfl) | apply Tot.gbl (b := false) | apply Tot.bql (b := false) | apply Tot.ift | apply Tot.iftf | apply Tot.ifff | (apply Tot.neq_t; omega) | (apply Tot.sneq_f; first | assumption | decide | exact List.cons_ne_nil _ _)) | ((conv => arg 2; arg 1; simp (disch := first | omega | assumption) only [qa8, qaw, qaf, qa4, ofCellsS, Nat.zero_add, Nat.add_zero, List.length_append, List.length_cons, List.length_nil, app_one, qbj, qbc, ld_sh, qa9, ldc0, ldcS, rx_box, h1]); (with_reducible first | apply Tot.of (qaa rfl) | apply Tot.gbl (b := true) | apply Tot.bql (b := true))))
      ((try conv => arg 2; simp (disch := first | omega | assumption) only [qac, qau, qaj, qad, qap, qab, qae, List.take_left']); refine Tot.ret ?_)
      simp
  · rw [decide_eq_false h1]
    (repeat' first | (with_reducible first | apply Tot.of (qaa rfl) | apply Tot.of (qa3 rfl) | apply Tot.of (qah rfl) | apply Tot.of (qak rfl) | apply Tot.gbl (b := true) | apply Tot.bql (b := true) | apply Tot.ift | apply Tot.iftf | (apply Tot.neq_f; omega)) | ((conv => arg 2; arg 1; simp (disch := first | omega | assumption) only [qa8, qaf, qa4, Nat.zero_add, Nat.add_zero, List.length_append, List.length_cons, List.length_nil, app_one, qbj, qbc, ld_sh, qa9, ldc0, ldcS, rx_box]); (with_reducible first | apply Tot.of (qaa rfl) | apply Tot.gbl (b := true) | apply Tot.bql (b := true))))
    ((try conv => arg 2; simp (disch := first | omega | assumption) only [qac, qau, qaj, qad, qap, qab, qae, List.take_left']); refine Tot.ret ?_)
    simp
end Go.Vm.Rx

/- Which expressions are the same: the program's answer. -/
namespace Go.Vm.Rx
open Go Go.Proofs P
set_option linter.unusedVariables false
set_option linter.unusedSimpArgs false
set_option linter.unusedSectionVars false
set_option maxRecDepth 10000
set_option maxHeartbeats 2000000
theorem s45_loop (A : St) (a b : Rx) (ha : a.Ok) (hb : b.Ok) (hn : a.ks.length = b.ks.length) (hk : ∀ k, k ∈ a.ks → ∀ k', k' ∈ b.ks → ∀ A, f25 mL (Run Tryd.prog rxA) (Dcall Tryd.prog rxA) (encRx k) (encRx k') A = some (.ret (.bool (k.same k')), A)) :
    ∀ (t t' : List Rx) (i : Nat), a.ks.drop i = t → b.ks.drop i = t' →
    iterK (f45_s0 mL (Run Tryd.prog rxA) (Dcall Tryd.prog rxA) A) (Env.mk (sp [(1, encL 3 (b.ks.map encRx)), (0, .fn (.func 25) [] []), (12, encL 3 (a.ks.map encRx)), (0, .int .i64 (a.ks.length : Nat)), (0, .int .i64 (i : Nat))] 14) []) A = some (.ret (.bool (Rx.sames t t')), A) := by
  intro t
  have hl := ha.len
  induction t with
  | nil =>
    intro t' i ht ht'
    have h1 := drop_len ht
    have : t' = [] := by rw [← ht']; exact List.drop_eq_nil_of_le (by omega)
    subst this
    refine Tot.eq (Tot.iter ?_)
    conv => arg 2; arg 1; unfold f45_s0
    (repeat' first | (with_reducible first | apply Tot.of (qaq rfl) | apply Tot.of (qba rfl) | apply Tot.of (qah rfl) | apply Tot.of (st_inr rfl) | apply Tot.of (qa0 rfl) | apply Tot.bql (b := false) | apply Tot.iff) | ((conv => arg 2; arg 1; simp (disch := first | omega | assumption) only [qac, Option.map_some, qau, qa2, qad, qal, List.take_length, qa5, qbb, qbe, qap, qab, qae]); (with_reducible first | apply Tot.of (qaa rfl) | (apply Tot.lss_f; omega))))
    ((try conv => arg 2; simp (disch := first | omega | assumption) only []); refine Tot.ret ?_)
    unfold Rx.sames; rfl
  | cons k t ih =>
    intro t' i ht ht'
    have h1 := drop_lt ht
    cases t' with
    | nil => have := drop_len ht'; omega
    | cons k' t' =>
      have hx := idx_drop (f := encRx) ht 3 true .i64
      have hx' := idx_drop (f := encRx) ht' 3 true .i64
      have hkk := hk k (drop_mem ht) k' (drop_mem ht')
      have hih := ih t' (i + 1) (drop_succ ht) (drop_succ ht')
      have hcl : ∀ B, applyD (Run Tryd.prog rxA) (.fn (.func 25) [] []) [encRx k, encRx k'] B = some (.ret (.bool (k.same k')), B) := fun B => by
        rw [app_fn]
        show Run Tryd.prog rxA 25 [encRx k, encRx k'] B = _
        rw [r25, qa7, qa7]
        exact hkk B
      have hshf : ∀ n, (D.fn (.func 25) [] []).shut n = .fn (.func 25) [] [] := fun _ => by simp [D.shut, D.shutL]
      refine Tot.eq (Tot.iter ?_)
      conv => arg 2; arg 1; unfold f45_s0
      unfold Rx.sames
      cases hq : k.same k'
      · rw [hq] at hcl
        (repeat' first | (with_reducible first | apply Tot.of (qaq rfl) | apply Tot.of (qba rfl) | apply Tot.of (qa3 rfl) | apply Tot.of (qah rfl) | apply Tot.of (qav rfl) | apply Tot.of (qas rfl) | apply Tot.of (st_inr rfl) | apply Tot.of (qa0 rfl) | apply Tot.bql (b := true) | apply Tot.ift) | ((conv => arg 2; arg 1; simp (disch := first | omega | assumption) only [qac, Option.map_some, qau, qaj, qad, qal, qbf, Nat.zero_add, qa6, ofA3, List.length_append, List.length_cons, List.length_nil, un_not, Bool.not_false, qa5, qbb, qbe, qaz, qai, qap, qab, qae, app_one, qbj, qbc, ld_sh, qa9, ldc0, ldcS, sto_sh, sto_sh0, stoc0, stocS, List.take_left', hx, hx', rx_cell, rx_lay, qbd, hcl]); (with_reducible first | apply Tot.of (qaa rfl) | (apply Tot.lss_t; omega))))
        ((try conv => arg 2; simp (disch := first | omega | assumption) only []); refine Tot.ret ?_)
        rfl
      · rw [hq] at hcl
        (repeat' first | (with_reducible first | apply Tot.of (qaa rfl) | apply Tot.of (qaq rfl) | apply Tot.of (qa3 rfl) | apply Tot.of (qah rfl) | apply Tot.of (qav rfl) | apply Tot.of (st_bnguard rfl) | apply Tot.of (qas rfl) | apply Tot.of (st_inl rfl) | apply Tot.of (st_bngk rfl) | apply Tot.bql (b := true) | apply Tot.bql (b := false) | apply Tot.ift | apply Tot.iff) | ((conv => arg 2; arg 1; simp (disch := first | omega | assumption) only [binO_add, qbi, qaj, qbf, Nat.zero_add, qa6, ofA3, List.length_append, List.length_cons, List.length_nil, un_not, Bool.not_true, qa5, qbb, qbe, qaz, qai, app_one, qbj, qbc, ld_sh, qa9, ldc0, ldcS, sto_sh, sto_sh0, stoc0, stocS, hx, hx', rx_cell, rx_lay, qbd, hcl]); (with_reducible first | apply Tot.of (qaa rfl) | apply Tot.of (st_guard rfl) | (apply Tot.lss_t; omega))))
        conv => arg 2; simp (disch := first | omega | assumption) only [qao, List.map_nil, qa5, qbb, qbe, List.take_left', rxs_shut, hshf]
        refine Tot.of_eq ?_
        simpa using hih
theorem s45 (A : St) (a b : Rx) (ha : a.Ok) (hb : b.Ok) (hk : ∀ k, k ∈ a.ks → ∀ k', k' ∈ b.ks → ∀ A, f25 mL (Run Tryd.prog rxA) (Dcall Tryd.prog rxA) (encRx k) (encRx k') A = some (.ret (.bool (k.same k')), A)) :
    f45 mL (Run Tryd.prog rxA) (Dcall Tryd.prog rxA) (encL 3 (a.ks.map encRx)) (encL 3 (b.ks.map encRx)) (.fn (.func 25) [] []) A = some (.ret (.bool (Rx.sames a.ks b.ks)), A) := by
  have hla := ha.len; have hlb := hb.len
  unfold f45
  refine Tot.eq ?_
  by_cases h3 : a.ks.length = b.ks.length
  · have := s45_loop A a b ha hb h3 hk a.ks b.ks 0 rfl rfl
    have h4 : (a.ks.length : Int) = b.ks.length := by omega
    rw [h3] at this
    (repeat' first | (with_reducible first | apply Tot.of (st_it rfl) | apply Tot.bql (b := false) | apply Tot.iff | (apply Tot.neq_t; omega)) | ((conv => arg 2; arg 1; simp (disch := first | omega | assumption) only [len_encL, List.length_map, h3]); (with_reducible first | apply Tot.of (qaa rfl))))
    (refine Tot.of_eq ?_; (conv => lhs; simp (disch := first | omega | assumption) only [qai]); exact this)
  · rw [Rx.sames_len h3]
    (repeat' first | (with_reducible first | apply Tot.of (qak rfl) | apply Tot.bql (b := true) | apply Tot.ift | (apply Tot.neq_f; omega)) | ((conv => arg 2; arg 1; simp (disch := first | omega | assumption) only [len_encL, List.length_map]); (with_reducible first | apply Tot.of (qaa rfl))))
    ((try conv => arg 2; simp (disch := first | omega | assumption) only [qac, qau, qa2, qad, List.take_length, qap, qab, qae]); refine Tot.ret ?_)
    rfl
theorem s25 : ∀ (a : Rx) (ha : a.Ok) (b : Rx) (hb : b.Ok) (A : St), f25 mL (Run Tryd.prog rxA) (Dcall Tryd.prog rxA) (encRx a) (encRx b) A = some (.ret (.bool (a.same b)), A) := by
  refine Rx.ind ?_
  intro a ih ha b hb A
  have he := fun A => s45 A a b ha hb (fun k hk k' hk' A => ih k hk (ha.kid hk) k' (hb.kid hk') A)
  have hcf : (D.fn (.func 25) [] []).canon = .fn (.func 25) [] [] := rfl
  unfold f25
  rw [Rx.same_eq]
  refine Tot.eq ?_
  by_cases h1 : a.op = b.op
  · by_cases h2 : a.nm = b.nm
    · (repeat' first | (with_reducible first | apply Tot.of (qa3 rfl) | apply Tot.of (qah rfl) | apply Tot.of (qas rfl) | apply Tot.of (qak rfl) | apply Tot.gbl (b := true) | apply Tot.bql (b := true) | apply Tot.iftt | (apply Tot.eql_t; omega) | (apply Tot.seql_t; first | assumption | with_reducible rfl)) | ((conv => arg 2; arg 1; simp (disch := first | omega | assumption) only [qa8, qaf, qa4, ofCellsS, Nat.zero_add, Nat.add_zero, List.length_append, List.length_cons, List.length_nil, app_one, qbj, qbc, ld_sh, qa9, ldc0, ldcS, rx_box, h1, h2, r45, rxs_canon, hcf, he]); (with_reducible first | apply Tot.of (qaa rfl) | apply Tot.gbl (b := true) | apply Tot.bql (b := true))))
      ((try conv => arg 2; simp (disch := first | omega | assumption) only [qa8, qac, qau, qaj, qad, qap, qab, qae, List.take_left']); refine Tot.ret ?_)
      simp [h1, h2]
    · rw [decide_eq_false h2]
      (repeat' first | (with_reducible first | apply Tot.of (qaa rfl) | apply Tot.of (qa3 rfl) | apply Tot.of (qah rfl) | apply Tot.of (qas rfl) | apply Tot.of (qak rfl) | apply Tot.gbl (b := true) | apply Tot.bql (b := true) | apply Tot.iftt | apply Tot.ifft | (apply Tot.eql_t; omega) | (apply Tot.seql_f; first | assumption | decide | exact List.cons_ne_nil _ _)) | ((conv => arg 2; arg 1; simp (disch := first | omega | assumption) only [qa8, qaf, qa4, ofCellsS, Nat.zero_add, Nat.add_zero, List.length_append, List.length_cons, List.length_nil, app_one, qbj, qbc, ld_sh, qa9, ldc0, ldcS, rx_box, h1]); (with_reducible first | apply Tot.of (qaa rfl) | apply Tot.gbl (b := false) | apply Tot.bql (b := false))))
      ((try conv => arg 2; simp (disch := first | omega | assumption) only [qaw, qac, qau, qaj, qad, qap, qab, qae, List.take_left']); refine Tot.ret ?_)
      simp
  · rw [decide_eq_false h1]
    (repeat' first | (with_reducible first | apply Tot.of (qaa rfl) | apply Tot.of (qa3 rfl) | apply Tot.of (qah rfl) | apply Tot.of (qas rfl) | apply Tot.of (qak rfl) | apply Tot.gbl (b := false) | apply Tot.bql (b := false) | apply Tot.ifft | (apply Tot.eql_f; omega)) | ((conv => arg 2; arg 1; simp (disch := first | omega | assumption) only [qaw, qaf, qa4, Nat.zero_add, Nat.add_zero, List.length_append, List.length_cons, List.length_nil, app_one, qbj, qbc, ld_sh, qa9, ldc0, ldcS, rx_box]); (with_reducible first | apply Tot.of (qaa rfl) | apply Tot.gbl (b := false) | apply Tot.bql (b := false))))
    ((try conv => arg 2; simp (disch := first | omega | assumption) only [qaw, qac, qau, qaj, qad, qap, qab, qae, List.take_left']); refine Tot.ret ?_)
    simp
end Go.Vm.Rx

/- Laws of path expressions: what texts and words are read as, which expressions are the same. -/
namespace Go.Vm.Rx
open Go Go.Proofs P
set_option linter.unusedVariables false
set_option linter.unusedSimpArgs false
set_option linter.unusedSectionVars false
set_option maxRecDepth 10000
set_option maxHeartbeats 4000000
theorem no_ok : Rx.no.Ok := ⟨by simp, by simp, trivial⟩
theorem readP_ok {l : List Word} (hl : l.length ≤ 1000000) (hw : ∀ w, w ∈ l → w.t.length ≤ 100000000) : (readP l).1.Ok := by
  unfold readP
  obtain ⟨x, hx⟩ := (ends hw (8 * l.length + 4)).alt 0 0 (by omega) (by omega)
  have hfc := (facts hw (8 * l.length + 4)).alt 0 0 x (by omega) hx
  rw [hx]
  rcases x with ⟨a, c⟩ | ⟨r, j⟩
  · exact no_ok
  · have g : Good l.length 0 r j := hfc
    have g1 := g.size; have g2 := g.le
    dsimp only
    split
    · exact no_ok
    · split
      · exact Rx.Nm.ok r g.nm (by omega)
      · exact no_ok
theorem parseP_ok {s : Str} {x : Except (Int × Int) (List (List Word))} (hs : s.length ≤ 1000000) (hx : textP s x) : (parseP x).1.Ok := by
  rcases x with ⟨p, c⟩ | rows
  · exact no_ok
  · obtain ⟨h1, h2, h3⟩ := textP_ok hx
    exact readP_ok (by omega) (fun w hm => by have := (h3 w hm).2.2.2.1; omega)
theorem alive_is (A : St) : Run Tryd.prog rxA 12 [] A = some (.ret (.bool true), A) := by
  rw [Run_ext _ _ (by decide) rfl]; rfl
end Go.Vm.Rx
