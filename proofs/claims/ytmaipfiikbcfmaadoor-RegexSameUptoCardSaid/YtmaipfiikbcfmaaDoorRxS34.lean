/- RxS32, RxS33, RxS34 in one text. -/
import Derived.Test.YtmaipfiikbcfmaaDoorRxS31
set_option linter.all false
/- Which expressions are the same: both texts' answers. -/
namespace Go.Vm.Rx
open Go Go.Proofs P
set_option linter.unusedVariables false
set_option linter.unusedSimpArgs false
set_option linter.unusedSectionVars false
set_option maxRecDepth 10000
set_option maxHeartbeats 2000000
theorem s11_loop (A : St) (a b : Rx) (ha : a.Ok) (hb : b.Ok) (hn : a.ks.length = b.ks.length) (hk : ∀ k, k ∈ a.ks → ∀ k', k' ∈ b.ks → ∀ A, f11 mL (Run Tryd.prog rxA) (Dcall Tryd.prog rxA) (encRx k) (encRx k') A = some (.ret (.bool (k.same k')), A)) :
    ∀ (t t' : List Rx) (i : Nat), a.ks.drop i = t → b.ks.drop i = t' →
    iterK (f11_s0 mL (Run Tryd.prog rxA) (Dcall Tryd.prog rxA) A) (Env.mk (sp [(2, .ref A.length 0), (0, .ref (A.length + 1) 0), (1, .int .i64 (i : Nat))] 40) []) (A ++ [.cells [.int .i64 a.op, .str a.nm, encL 3 (a.ks.map encRx)], .cells [.int .i64 b.op, .str b.nm, encL 3 (b.ks.map encRx)]]) = some (.ret (.bool (Rx.sames t t')), A) := by
  intro t
  have hl := ha.len
  have hs0 : (D.ref A.length 0).shut (A.length + 2) = .ref A.length 0 := shut_ref _ (by omega)
  have hs1 : (D.ref (A.length + 1) 0).shut (A.length + 2) = .ref (A.length + 1) 0 := shut_ref _ (by omega)
  induction t with
  | nil =>
    intro t' i ht ht'
    have h1 := drop_len ht
    have : t' = [] := by rw [← ht']; exact List.drop_eq_nil_of_le (by omega)
    subst this
    refine Tot.eq (Tot.iter ?_)
    conv => arg 2; arg 1; unfold f11_s0
    (repeat' first | (with_reducible first | apply Tot.of (st_bnbn rfl) | apply Tot.of (st_map rfl) | apply Tot.of (st_mp rfl) | apply Tot.of (st_bnif rfl) | apply Tot.of (st_inr rfl) | apply Tot.of (st_bnleave rfl) | apply Tot.bql (b := false) | apply Tot.iff) | ((conv => arg 2; arg 1; simp (disch := first | omega | assumption) only [qac, Option.map_some, shut_bool, Kept_append, qab, leaves_nil, qae, ofCells0, ofCellsS, Nat.zero_add, sp_g0, sp_gs, sp_g1, canon_bool, qaa, leave_can, len_encL, ld_sh0, ldc0, List.take_left', List.length_map]); (with_reducible first | apply Tot.of (qad rfl) | (apply Tot.lss_f; omega))))
    ((try conv => arg 2; simp (disch := first | omega | assumption) only []); refine Tot.ret ?_)
    unfold Rx.sames; rfl
  | cons k t ih =>
    intro t' i ht ht'
    have h1 := drop_lt ht
    cases t' with
    | nil => have := drop_len ht'; omega
    | cons k' t' =>
      have hx := idx_drop (f := encRx) ht 3 true .i64
      have hx' := idx_drop (f := encRx) ht' 3 true .i64
      have hkk := hk k (drop_mem ht) k' (drop_mem ht')
      have hih := ih t' (i + 1) (drop_succ ht) (drop_succ ht')
      refine Tot.eq (Tot.iter ?_)
      conv => arg 2; arg 1; unfold f11_s0
      unfold Rx.sames
      cases hq : k.same k'
      · rw [hq] at hkk
        (repeat' first | (with_reducible first | apply Tot.of (st_bnbn rfl) | apply Tot.of (st_map rfl) | apply Tot.of (st_mp rfl) | apply Tot.of (st_bnif rfl) | apply Tot.of (st_bnelim rfl) | apply Tot.of (st_bnguard rfl) | apply Tot.of (st_ret rfl) | apply Tot.of (st_inr rfl) | apply Tot.of (st_guard rfl) | apply Tot.of (st_bngs rfl) | apply Tot.of (st_bnleave rfl) | apply Tot.bql (b := true) | apply Tot.ift) | ((conv => arg 2; arg 1; simp (disch := first | omega | assumption) only [qac, Option.map_some, shut_bool, Kept_append, qab, leaves_nil, qae, load_peek, ofCells0, ofCellsS, Nat.zero_add, ofA3, un_not, Bool.not_false, sp_g0, sp_gs, sp_g1, mp_some, canon_bool, qaa, leave_can, len_encL, ld_sh, ld_sh0, ldc0, ldcS, List.take_left', List.length_map, hx, hx', rx_cell, rx_fold, rx_canon, r11, hkk]); (with_reducible first | apply Tot.of (qad rfl) | (apply Tot.lss_t; omega))))
        ((try conv => arg 2; simp (disch := first | omega | assumption) only []); refine Tot.ret ?_)
        rfl
      · rw [hq] at hkk
        (repeat' first | (with_reducible first | apply Tot.of (qad rfl) | apply Tot.of (st_bnbn rfl) | apply Tot.of (st_mp rfl) | apply Tot.of (st_bnif rfl) | apply Tot.of (st_bnelim rfl) | apply Tot.of (st_bnguard rfl) | apply Tot.of (st_ret rfl) | apply Tot.of (st_inl rfl) | apply Tot.of (st_guard rfl) | apply Tot.of (st_bngs rfl) | apply Tot.of (st_bngk rfl) | apply Tot.bql (b := true) | apply Tot.bql (b := false) | apply Tot.ift | apply Tot.iff) | ((conv => arg 2; arg 1; simp (disch := first | omega | assumption) only [binO_add, wrap_i64, Kept_refl, qae, load_peek, ofCells0, ofCellsS, Nat.zero_add, ofA3, un_not, Bool.not_true, sp_g0, sp_gs, sp_g1, mp_some, n64_eq, len_encL, ld_sh, ld_sh0, ldc0, ldcS, List.length_map, hx, hx', rx_cell, rx_fold, rx_canon, r11, hkk]); (with_reducible first | apply Tot.of (qad rfl) | apply Tot.of (st_guard rfl) | (apply Tot.lss_t; omega))))
        conv => arg 2; simp (disch := first | omega | assumption) only [shut_int, List.map_nil, Nat.zero_add, List.length_append, List.length_cons, List.length_nil, sp_g0, sp_gs, sp_g1, Nat.reduceAdd, take_n2, hs0, hs1]
        refine Tot.of_eq ?_
        simpa using hih
theorem s11 : ∀ (a : Rx) (ha : a.Ok) (b : Rx) (hb : b.Ok) (A : St), f11 mL (Run Tryd.prog rxA) (Dcall Tryd.prog rxA) (encRx a) (encRx b) A = some (.ret (.bool (a.same b)), A) := by
  refine Rx.ind ?_
  intro a ih ha b hb A
  have hla := ha.len; have hlb := hb.len
  have hlm : ∀ r : Rx, ((r.ks.map encRx).length : Int) = (r.ks.length : Int) := fun r => by simp
  unfold f11
  rw [Rx.same_eq]
  refine Tot.eq ?_
  by_cases h1 : a.op = b.op
  · by_cases h2 : a.nm = b.nm
    · by_cases h3 : a.ks.length = b.ks.length
      · have := s11_loop A a b ha hb h3 (fun k hk k' hk' A => ih k hk (ha.kid hk) k' (hb.kid hk') A) a.ks b.ks 0 rfl rfl
        (repeat' first | (with_reducible first | apply Tot.of (st_mp rfl) | apply Tot.of (st_bnif rfl) | apply Tot.of (st_it rfl) | apply Tot.gbl (b := false) | apply Tot.bql (b := false) | apply Tot.iff | apply Tot.ifff | (apply Tot.neq_t; omega) | (apply Tot.sneq_t; first | assumption | with_reducible rfl)) | ((conv => arg 2; arg 1; simp (disch := first | omega | assumption) only [ifb_false, qae, ofCells0, ofCellsS, Nat.zero_add, Nat.add_zero, List.length_append, List.length_cons, List.length_nil, len_encL, app_one, app_nil', app_cons', ld_sh, ld_sh0, ldc0, ldcS, List.length_map, rx_box, h1, h2, h3]); (with_reducible first | apply Tot.of (qad rfl) | apply Tot.gbl (b := false) | apply Tot.bql (b := false))))
        (refine Tot.of_eq ?_; (conv => lhs; simp (disch := first | omega | assumption) only [n64_eq]); rw [decide_eq_true h1, decide_eq_true h2]; simpa [h1, h2, h3] using this)
      · rw [Rx.sames_len h3]
        (repeat' first | (with_reducible first | apply Tot.of (st_mp rfl) | apply Tot.of (st_bnif rfl) | apply Tot.of (st_leave rfl) | apply Tot.gbl (b := false) | apply Tot.bql (b := false) | apply Tot.ift | apply Tot.ifff | (apply Tot.neq_t; omega) | (apply Tot.neq_f; omega) | (apply Tot.sneq_t; first | assumption | with_reducible rfl)) | ((conv => arg 2; arg 1; simp (disch := first | omega | assumption) only [ifb_false, qae, ofCells0, ofCellsS, Nat.zero_add, Nat.add_zero, List.length_append, List.length_cons, List.length_nil, len_encL, app_one, app_nil', app_cons', ld_sh, ld_sh0, ldc0, ldcS, List.length_map, rx_box, h1, h2]); (with_reducible first | apply Tot.of (qad rfl) | apply Tot.gbl (b := false) | apply Tot.bql (b := true) | apply Tot.bql (b := false))))
        ((try conv => arg 2; simp (disch := first | omega | assumption) only [qac, shut_bool, Kept_append, qab, canon_bool, qaa, leave_can, List.take_left']); refine Tot.ret ?_)
        simp
    · rw [decide_eq_false h2]
      (repeat' first | (with_reducible first | apply Tot.of (qad rfl) | apply Tot.of (st_mp rfl) | apply Tot.of (st_bnif rfl) | apply Tot.of (st_leave rfl) | apply Tot.gbl (b := false) | apply Tot.bql (b := false) | apply Tot.ift | apply Tot.iftf | apply Tot.ifff | (apply Tot.neq_t; omega) | (apply Tot.sneq_f; first | assumption | decide | exact List.cons_ne_nil _ _)) | ((conv => arg 2; arg 1; simp (disch := first | omega | assumption) only [ifb_true, ifb_false, qae, ofCells0, ofCellsS, Nat.zero_add, Nat.add_zero, List.length_append, List.length_cons, List.length_nil, app_one, app_nil', app_cons', ld_sh, ld_sh0, ldc0, ldcS, rx_box, h1]); (with_reducible first | apply Tot.of (qad rfl) | apply Tot.gbl (b := true) | apply Tot.bql (b := true))))
      ((try conv => arg 2; simp (disch := first | omega | assumption) only [qac, shut_bool, Kept_append, qab, canon_bool, qaa, leave_can, List.take_left']); refine Tot.ret ?_)
      simp
  · rw [decide_eq_false h1]
    (repeat' first | (with_reducible first | apply Tot.of (qad rfl) | apply Tot.of (st_mp rfl) | apply Tot.of (st_bnif rfl) | apply Tot.of (st_leave rfl) | apply Tot.gbl (b := true) | apply Tot.bql (b := true) | apply Tot.ift | apply Tot.iftf | (apply Tot.neq_f; omega)) | ((conv => arg 2; arg 1; simp (disch := first | omega | assumption) only [ifb_true, qae, ofCells0, Nat.zero_add, Nat.add_zero, List.length_append, List.length_cons, List.length_nil, app_one, app_nil', app_cons', ld_sh, ld_sh0, ldc0, ldcS, rx_box]); (with_reducible first | apply Tot.of (qad rfl) | apply Tot.gbl (b := true) | apply Tot.bql (b := true))))
    ((try conv => arg 2; simp (disch := first | omega | assumption) only [qac, shut_bool, Kept_append, qab, canon_bool, qaa, leave_can, List.take_left']); refine Tot.ret ?_)
    simp
end Go.Vm.Rx

/- Which expressions are the same: the program's answer. -/
namespace Go.Vm.Rx
open Go Go.Proofs P
set_option linter.unusedVariables false
set_option linter.unusedSimpArgs false
set_option linter.unusedSectionVars false
set_option maxRecDepth 10000
set_option maxHeartbeats 2000000
theorem s45_loop (A : St) (a b : Rx) (ha : a.Ok) (hb : b.Ok) (hn : a.ks.length = b.ks.length) (hk : ∀ k, k ∈ a.ks → ∀ k', k' ∈ b.ks → ∀ A, f25 mL (Run Tryd.prog rxA) (Dcall Tryd.prog rxA) (encRx k) (encRx k') A = some (.ret (.bool (k.same k')), A)) :
    ∀ (t t' : List Rx) (i : Nat), a.ks.drop i = t → b.ks.drop i = t' →
    iterK (f45_s0 mL (Run Tryd.prog rxA) (Dcall Tryd.prog rxA) A) (Env.mk (sp [(1, encL 3 (b.ks.map encRx)), (0, .fn (.func 25) [] []), (12, encL 3 (a.ks.map encRx)), (0, .int .i64 (a.ks.length : Nat)), (0, .int .i64 (i : Nat))] 14) []) A = some (.ret (.bool (Rx.sames t t')), A) := by
  intro t
  have hl := ha.len
  induction t with
  | nil =>
    intro t' i ht ht'
    have h1 := drop_len ht
    have : t' = [] := by rw [← ht']; exact List.drop_eq_nil_of_le (by omega)
    subst this
    refine Tot.eq (Tot.iter ?_)
    conv => arg 2; arg 1; unfold f45_s0
    (repeat' first | (with_reducible first | apply Tot.of (st_bnbn rfl) | apply Tot.of (st_map rfl) | apply Tot.of (st_bnif rfl) | apply Tot.of (st_inr rfl) | apply Tot.of (st_bnleave rfl) | apply Tot.bql (b := false) | apply Tot.iff) | ((conv => arg 2; arg 1; simp (disch := first | omega | assumption) only [qac, Option.map_some, shut_bool, Kept_refl, qab, leaves_nil, List.take_length, sp_g0, sp_gs, sp_g1, canon_bool, qaa, leave_can]); (with_reducible first | apply Tot.of (qad rfl) | (apply Tot.lss_f; omega))))
    ((try conv => arg 2; simp (disch := first | omega | assumption) only []); refine Tot.ret ?_)
    unfold Rx.sames; rfl
  | cons k t ih =>
    intro t' i ht ht'
    have h1 := drop_lt ht
    cases t' with
    | nil => have := drop_len ht'; omega
    | cons k' t' =>
      have hx := idx_drop (f := encRx) ht 3 true .i64
      have hx' := idx_drop (f := encRx) ht' 3 true .i64
      have hkk := hk k (drop_mem ht) k' (drop_mem ht')
      have hih := ih t' (i + 1) (drop_succ ht) (drop_succ ht')
      have hcl : ∀ B, applyD (Run Tryd.prog rxA) (.fn (.func 25) [] []) [encRx k, encRx k'] B = some (.ret (.bool (k.same k')), B) := fun B => by
        rw [app_fn]
        show Run Tryd.prog rxA 25 [encRx k, encRx k'] B = _
        rw [r25, rx_canon, rx_canon]
        exact hkk B
      have hshf : ∀ n, (D.fn (.func 25) [] []).shut n = .fn (.func 25) [] [] := fun _ => by simp [D.shut, D.shutL]
      refine Tot.eq (Tot.iter ?_)
      conv => arg 2; arg 1; unfold f45_s0
      unfold Rx.sames
      cases hq : k.same k'
      · rw [hq] at hcl
        (repeat' first | (with_reducible first | apply Tot.of (st_bnbn rfl) | apply Tot.of (st_map rfl) | apply Tot.of (st_mp rfl) | apply Tot.of (st_bnif rfl) | apply Tot.of (st_bnelim rfl) | apply Tot.of (st_ret rfl) | apply Tot.of (st_inr rfl) | apply Tot.of (st_bnleave rfl) | apply Tot.bql (b := true) | apply Tot.ift) | ((conv => arg 2; arg 1; simp (disch := first | omega | assumption) only [qac, Option.map_some, shut_bool, Kept_append, qab, leaves_nil, load_peek, Nat.zero_add, alloc_eq, ofA3, List.length_append, List.length_cons, List.length_nil, un_not, Bool.not_false, sp_g0, sp_gs, sp_g1, mp_some, n64_eq, canon_bool, qaa, leave_can, app_one, app_nil', app_cons', ld_sh, ld_sh0, ldc0, ldcS, sto_sh, sto_sh0, stoc0, stocS, List.take_left', hx, hx', rx_cell, rx_lay, rx_fold, hcl]); (with_reducible first | apply Tot.of (qad rfl) | (apply Tot.lss_t; omega))))
        ((try conv => arg 2; simp (disch := first | omega | assumption) only []); refine Tot.ret ?_)
        rfl
      · rw [hq] at hcl
        (repeat' first | (with_reducible first | apply Tot.of (qad rfl) | apply Tot.of (st_bnbn rfl) | apply Tot.of (st_mp rfl) | apply Tot.of (st_bnif rfl) | apply Tot.of (st_bnelim rfl) | apply Tot.of (st_bnguard rfl) | apply Tot.of (st_ret rfl) | apply Tot.of (st_inl rfl) | apply Tot.of (st_bngk rfl) | apply Tot.bql (b := true) | apply Tot.bql (b := false) | apply Tot.ift | apply Tot.iff) | ((conv => arg 2; arg 1; simp (disch := first | omega | assumption) only [binO_add, wrap_i64, Kept_append, load_peek, Nat.zero_add, alloc_eq, ofA3, List.length_append, List.length_cons, List.length_nil, un_not, Bool.not_true, sp_g0, sp_gs, sp_g1, mp_some, n64_eq, app_one, app_nil', app_cons', ld_sh, ld_sh0, ldc0, ldcS, sto_sh, sto_sh0, stoc0, stocS, hx, hx', rx_cell, rx_lay, rx_fold, hcl]); (with_reducible first | apply Tot.of (qad rfl) | apply Tot.of (st_guard rfl) | (apply Tot.lss_t; omega))))
        conv => arg 2; simp (disch := first | omega | assumption) only [shut_int, List.map_nil, sp_g0, sp_gs, sp_g1, List.take_left', rxs_shut, hshf]
        refine Tot.of_eq ?_
        simpa using hih
theorem s45 (A : St) (a b : Rx) (ha : a.Ok) (hb : b.Ok) (hk : ∀ k, k ∈ a.ks → ∀ k', k' ∈ b.ks → ∀ A, f25 mL (Run Tryd.prog rxA) (Dcall Tryd.prog rxA) (encRx k) (encRx k') A = some (.ret (.bool (k.same k')), A)) :
    f45 mL (Run Tryd.prog rxA) (Dcall Tryd.prog rxA) (encL 3 (a.ks.map encRx)) (encL 3 (b.ks.map encRx)) (.fn (.func 25) [] []) A = some (.ret (.bool (Rx.sames a.ks b.ks)), A) := by
  have hla := ha.len; have hlb := hb.len
  unfold f45
  refine Tot.eq ?_
  by_cases h3 : a.ks.length = b.ks.length
  · have := s45_loop A a b ha hb h3 hk a.ks b.ks 0 rfl rfl
    have h4 : (a.ks.length : Int) = b.ks.length := by omega
    rw [h3] at this
    (repeat' first | (with_reducible first | apply Tot.of (st_it rfl) | apply Tot.bql (b := false) | apply Tot.iff | (apply Tot.neq_t; omega)) | ((conv => arg 2; arg 1; simp (disch := first | omega | assumption) only [len_encL, List.length_map, h3]); (with_reducible first | apply Tot.of (qad rfl))))
    (refine Tot.of_eq ?_; (conv => lhs; simp (disch := first | omega | assumption) only [n64_eq]); exact this)
  · rw [Rx.sames_len h3]
    (repeat' first | (with_reducible first | apply Tot.of (st_leave rfl) | apply Tot.bql (b := true) | apply Tot.ift | (apply Tot.neq_f; omega)) | ((conv => arg 2; arg 1; simp (disch := first | omega | assumption) only [len_encL, List.length_map]); (with_reducible first | apply Tot.of (qad rfl))))
    ((try conv => arg 2; simp (disch := first | omega | assumption) only [qac, shut_bool, Kept_refl, qab, List.take_length, canon_bool, qaa, leave_can]); refine Tot.ret ?_)
    rfl
theorem s25 : ∀ (a : Rx) (ha : a.Ok) (b : Rx) (hb : b.Ok) (A : St), f25 mL (Run Tryd.prog rxA) (Dcall Tryd.prog rxA) (encRx a) (encRx b) A = some (.ret (.bool (a.same b)), A) := by
  refine Rx.ind ?_
  intro a ih ha b hb A
  have he := fun A => s45 A a b ha hb (fun k hk k' hk' A => ih k hk (ha.kid hk) k' (hb.kid hk') A)
  have hcf : (D.fn (.func 25) [] []).canon = .fn (.func 25) [] [] := rfl
  unfold f25
  rw [Rx.same_eq]
  refine Tot.eq ?_
  by_cases h1 : a.op = b.op
  · by_cases h2 : a.nm = b.nm
    · (repeat' first | (with_reducible first | apply Tot.of (st_mp rfl) | apply Tot.of (st_bnif rfl) | apply Tot.of (st_ret rfl) | apply Tot.of (st_leave rfl) | apply Tot.gbl (b := true) | apply Tot.bql (b := true) | apply Tot.iftt | (apply Tot.eql_t; omega) | (apply Tot.seql_t; first | assumption | with_reducible rfl)) | ((conv => arg 2; arg 1; simp (disch := first | omega | assumption) only [ifb_true, qae, ofCells0, ofCellsS, Nat.zero_add, Nat.add_zero, List.length_append, List.length_cons, List.length_nil, app_one, app_nil', app_cons', ld_sh, ld_sh0, ldc0, ldcS, rx_box, h1, h2, r45, rxs_canon, hcf, he]); (with_reducible first | apply Tot.of (qad rfl) | apply Tot.gbl (b := true) | apply Tot.bql (b := true))))
      ((try conv => arg 2; simp (disch := first | omega | assumption) only [ifb_true, qac, shut_bool, Kept_append, qab, canon_bool, qaa, leave_can, List.take_left']); refine Tot.ret ?_)
      simp [h1, h2]
    · rw [decide_eq_false h2]
      (repeat' first | (with_reducible first | apply Tot.of (qad rfl) | apply Tot.of (st_mp rfl) | apply Tot.of (st_bnif rfl) | apply Tot.of (st_ret rfl) | apply Tot.of (st_leave rfl) | apply Tot.gbl (b := true) | apply Tot.bql (b := true) | apply Tot.iftt | apply Tot.ifft | (apply Tot.eql_t; omega) | (apply Tot.seql_f; first | assumption | decide | exact List.cons_ne_nil _ _)) | ((conv => arg 2; arg 1; simp (disch := first | omega | assumption) only [ifb_true, qae, ofCells0, ofCellsS, Nat.zero_add, Nat.add_zero, List.length_append, List.length_cons, List.length_nil, app_one, app_nil', app_cons', ld_sh, ld_sh0, ldc0, ldcS, rx_box, h1]); (with_reducible first | apply Tot.of (qad rfl) | apply Tot.gbl (b := false) | apply Tot.bql (b := false))))
      ((try conv => arg 2; simp (disch := first | omega | assumption) only [ifb_false, qac, shut_bool, Kept_append, qab, canon_bool, qaa, leave_can, List.take_left']); refine Tot.ret ?_)
      simp
  · rw [decide_eq_false h1]
    (repeat' first | (with_reducible first | apply Tot.of (qad rfl) | apply Tot.of (st_mp rfl) | apply Tot.of (st_bnif rfl) | apply Tot.of (st_ret rfl) | apply Tot.of (st_leave rfl) | apply Tot.gbl (b := false) | apply Tot.bql (b := false) | apply Tot.ifft | (apply Tot.eql_f; omega)) | ((conv => arg 2; arg 1; simp (disch := first | omega | assumption) only [ifb_false, qae, ofCells0, Nat.zero_add, Nat.add_zero, List.length_append, List.length_cons, List.length_nil, app_one, app_nil', app_cons', ld_sh, ld_sh0, ldc0, ldcS, rx_box]); (with_reducible first | apply Tot.of (qad rfl) | apply Tot.gbl (b := false) | apply Tot.bql (b := false))))
    ((try conv => arg 2; simp (disch := first | omega | assumption) only [ifb_false, qac, shut_bool, Kept_append, qab, canon_bool, qaa, leave_can, List.take_left']); refine Tot.ret ?_)
    simp
end Go.Vm.Rx

/- Laws of path expressions: what texts and words are read as, which expressions are the same. -/
namespace Go.Vm.Rx
open Go Go.Proofs P
set_option linter.unusedVariables false
set_option linter.unusedSimpArgs false
set_option linter.unusedSectionVars false
set_option maxRecDepth 10000
set_option maxHeartbeats 4000000
theorem alive_is (A : St) : Run Tryd.prog rxA 12 [] A = some (.ret (.bool true), A) := by
  rw [Run_ext _ _ (by decide) rfl]; rfl
theorem law8 (a b : Rx) (ha : a.Ok) (hb : b.Ok) (A : St) : f8 mL (Run Tryd.prog rxA) (Dcall Tryd.prog rxA) (encRx a) (encRx b) A = some (.ret (.bool true), A) := by
  have c1 := fun A => s16 a ha A
  have c2 := fun A => s16 b hb A
  have s1 := fun A => s25 a ha b hb A
  have s2 := fun A => s11 a ha b hb A
  have s3 := fun A => s25 a ha a ha A
  have s4 := fun A => s25 b hb b hb A
  rw [Rx.same_refl] at s3 s4
  unfold f8
  refine Tot.eq ?_
  by_cases h1 : a.check = 0
  · by_cases h2 : b.check = 0
    · rw [h1] at c1; rw [h2] at c2
      have hbe : ∀ x, binO .eql 0 false (.bool x) (.bool x) = some (.bool true) := fun x => by cases x <;> rfl
      cases hs : a.same b <;> rw [hs] at s1 s2
      all_goals ((repeat' first | (with_reducible first | apply Tot.of (st_mp rfl) | apply Tot.of (st_bnif rfl) | apply Tot.of (st_ret rfl) | apply Tot.of (st_gs rfl) | apply Tot.of (st_leave rfl) | apply Tot.gbl (b := true) | apply Tot.gbl (b := false) | apply Tot.bql (b := true) | apply Tot.bql (b := false) | apply Tot.iff | apply Tot.iftt | apply Tot.ifff) | ((conv => arg 2; arg 1; simp (disch := first | omega | assumption) only [ifb_true, ifb_false, Nat.zero_add, ofA3, List.length_append, List.length_cons, List.length_nil, sameAd_refl, and_self, n64_eq, app_one, app_nil', app_cons', ld_sh, ld_sh0, ldc0, ldcS, rx_box, rx_fold, rx_canon, r16, c1, c2, r25, s1, s3, s4, r11, s2, hbe, alive_is]); (with_reducible first | apply Tot.of (qad rfl) | apply Tot.of (st_guard rfl) | apply Tot.gbl (b := true) | apply Tot.bql (b := true) | apply Tot.bql (b := false) | (apply Tot.neq_t; omega)))); ((try conv => arg 2; simp (disch := first | omega | assumption) only [ifb_true, qac, shut_bool, Kept_append, qab, canon_bool, qaa, leave_can, List.take_left']); refine Tot.ret ?_); rfl)
    · rw [h1] at c1
      (repeat' first | (with_reducible first | apply Tot.of (st_mp rfl) | apply Tot.of (st_bnif rfl) | apply Tot.of (st_ret rfl) | apply Tot.of (st_leave rfl) | apply Tot.gbl (b := false) | apply Tot.bql (b := false) | apply Tot.ift | apply Tot.ifff) | ((conv => arg 2; arg 1; simp (disch := first | omega | assumption) only [ifb_false, Nat.zero_add, ofA3, List.length_append, List.length_cons, List.length_nil, n64_eq, app_one, app_nil', app_cons', ld_sh, ld_sh0, ldc0, ldcS, rx_box, rx_fold, rx_canon, r16, c1, c2, alive_is]); (with_reducible first | apply Tot.of (qad rfl) | apply Tot.bql (b := true) | (apply Tot.neq_t; omega) | (apply Tot.neq_f; omega))))
      ((try conv => arg 2; simp (disch := first | omega | assumption) only [qac, shut_bool, Kept_append, qab, canon_bool, qaa, leave_can, List.take_left']); refine Tot.ret ?_)
      rfl
  · (repeat' first | (with_reducible first | apply Tot.of (qad rfl) | apply Tot.of (st_mp rfl) | apply Tot.of (st_bnif rfl) | apply Tot.of (st_ret rfl) | apply Tot.of (st_leave rfl) | apply Tot.gbl (b := true) | apply Tot.bql (b := true) | apply Tot.ift | apply Tot.iftf) | ((conv => arg 2; arg 1; simp (disch := first | omega | assumption) only [ifb_true, Nat.zero_add, ofA3, List.length_append, List.length_cons, List.length_nil, n64_eq, app_one, app_nil', app_cons', ld_sh0, ldc0, rx_box, rx_fold, rx_canon, r16, c1, alive_is]); (with_reducible first | apply Tot.of (qad rfl) | apply Tot.bql (b := true) | (apply Tot.neq_f; omega))))
    ((try conv => arg 2; simp (disch := first | omega | assumption) only [qac, shut_bool, Kept_append, qab, canon_bool, qaa, leave_can, List.take_left']); refine Tot.ret ?_)
    rfl
end Go.Vm.Rx
