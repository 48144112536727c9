/- RxS10, RxS11, RxS12, RxS13, RxS14 in one text. -/
import Derived.Test.YtikjlgcbcljehaaGreatDoorRxS9
import Derived.Test.YtikjlgcbcljehaaGreatDoorVmSt2
set_option linter.all false
/- What the program's tests of expressions come to. -/
namespace Go.Vm.Rx
open Go Go.Proofs P
set_option linter.unusedVariables false
set_option linter.unusedSimpArgs false
set_option maxRecDepth 10000
set_option maxHeartbeats 1000000
theorem rx_lay (r : Rx) (a b c : D) : layCells true 3 0 [a, b, c] (encRx r) = some [.int .i64 r.op, .str r.nm, encL 3 (r.ks.map encRx)] := by
  rw [encRx_eq]
  simp [layCells, D.cellsT, D.agg?, allCells, D.cell?, splice, encL]
/-! few -/
def fewOut (left size : Int) (A : St) (x : Res × St) : Prop := ∃ n : Int, x = (.ret (.int .i64 n), A) ∧ (size ≤ left → n = left - size) ∧ (¬ size ≤ left → n = -1)
theorem s19_loop (A : St) (r : Rx) (hr : r.Ok) (hk : ∀ k, k ∈ r.ks → ∀ m, 0 ≤ m → m ≤ 1000000 → ∀ A, Tot (fewOut m k.size A) (f19 mL (Run Tryz.prog rxA) (Dcall Tryz.prog rxA) (encRx k) (.int .i64 m) A)) :
    ∀ (t : List Rx) (i : Nat) (n : Int) (L : St), r.ks.drop i = t → -1 ≤ n → n ≤ 1000000 →
    Tot (fewOut n (Rx.sizes t) A) (iterK (f19_s0 mL (Run Tryz.prog rxA) (Dcall Tryz.prog rxA) A) (Env.mk (sp [(1, .int .i64 n), (8, encL 3 (r.ks.map encRx)), (0, .int .i64 (r.ks.length : Nat)), (0, .int .i64 (i : Nat))] 11) []) (A ++ L)) := by
  intro t
  have hl := hr.len
  induction t with
  | nil =>
    intro i n L ht h1 h2
    have hl1 := drop_len ht
    refine Tot.iter ?_
    conv => arg 2; arg 1; unfold f19_s0
    (repeat' first | (with_reducible first | apply Tot.of (qag rfl) | apply Tot.of (qa0 rfl) | apply Tot.of (qac rfl) | apply Tot.of (st_inr rfl) | apply Tot.of (qas rfl) | apply Tot.bql (b := false) | apply Tot.iff) | ((conv => arg 2; arg 1; simp (disch := first | omega | assumption) only [qah, Option.map_some, qa1, qar, qad, qaq, qai, qaj, qak, qam, qab, qal, List.take_left']); (with_reducible first | apply Tot.of (qaa rfl) | (apply Tot.lss_f; omega))))
    ((try conv => arg 2; simp (disch := first | omega | assumption) only []); refine Tot.ret ?_)
    refine ⟨n, rfl, ?_, ?_⟩ <;> (try simp only [Rx.sizes]) <;> omega
  | cons k t ih =>
    intro i n L ht h1 h2
    have hl1 := drop_lt ht
    have hx := idx_drop (f := encRx) ht 3 true .i64
    have hsz : Rx.sizes (k :: t) = k.size + Rx.sizes t := rfl
    have hsp := Rx.size_pos k
    refine Tot.iter ?_
    conv => arg 2; arg 1; unfold f19_s0
    by_cases hn : 0 ≤ n
    · have hkk := hk k (drop_mem ht) n hn h2
      (repeat' first | (with_reducible first | apply Tot.of (qag rfl) | apply Tot.of (qax rfl) | apply Tot.of (qac rfl) | apply Tot.bql (b := true) | apply Tot.bql (b := false) | apply Tot.ift | apply Tot.iff) | ((conv => arg 2; arg 1; simp (disch := first | omega | assumption) only [qau, alloc_eq, ofA3, List.length_append, qai, qaj, qak, mp_some, qaf, app_one, ld_sh, ld_sh0, ldc0, sto_sh, sto_sh0, stoc0, hx, rx_cell, rx_fold, rx_lay]); (with_reducible first | apply Tot.of (qaa rfl) | (apply Tot.lss_t; omega) | (apply Tot.lss_f; omega))))
      conv => arg 2; arg 1; simp (disch := first | omega | assumption) only [qai, qaj, qam, rx_canon, r19]
      refine Tot.bn (hkk _) fun x hx => ?_
      obtain ⟨m, rfl, hg, hb⟩ := hx
      (repeat' first | (with_reducible first | apply Tot.of (qaa rfl) | apply Tot.of (qag rfl) | apply Tot.of (st_bnelim rfl) | apply Tot.of (qaw rfl) | apply Tot.of (qa3 rfl) | apply Tot.of (qay rfl) | apply Tot.of (st_bngk rfl)) | ((conv => arg 2; arg 1; simp (disch := first | omega | assumption) only [qap, qan, qai, qaj, qak, qaf, Kept_app2]); (with_reducible first | apply Tot.of (qaa rfl) | apply Tot.of (st_guard rfl))))
      have := ih (i + 1) m L (drop_succ ht) (by omega) (by omega)
      conv => arg 2; simp (disch := first | omega | assumption) only [qa1, List.map_nil, List.length_append, qai, qaj, qak, take_app2, rxs_shut]
      refine Tot.mono this fun y hy => ?_
      obtain ⟨N, rfl, h5, h6⟩ := hy
      refine ⟨N, rfl, ?_, ?_⟩ <;> rw [hsz] <;> omega
    · (repeat' first | (with_reducible first | apply Tot.of (qag rfl) | apply Tot.of (qa0 rfl) | apply Tot.of (qax rfl) | apply Tot.of (qac rfl) | apply Tot.of (st_inr rfl) | apply Tot.of (qas rfl) | apply Tot.bql (b := true) | apply Tot.ift) | ((conv => arg 2; arg 1; simp (disch := first | omega | assumption) only [qah, Option.map_some, qa1, qar, qad, qaq, qau, alloc_eq, ofA3, List.length_append, qai, qaj, qak, mp_some, qaf, qam, qab, qal, app_one, sto_sh, sto_sh0, stoc0, List.take_left', hx, rx_cell, rx_fold, rx_lay]); (with_reducible first | apply Tot.of (qaa rfl) | (apply Tot.lss_t; omega))))
      ((try conv => arg 2; simp (disch := first | omega | assumption) only []); refine Tot.ret ?_)
      refine ⟨n, rfl, ?_, ?_⟩ <;> rw [hsz] at * <;> omega
theorem s19 : ∀ (r : Rx) (hr : r.Ok) (left : Int) (h0 : 0 ≤ left) (h1 : left ≤ 1000000) (A : St), Tot (fewOut left r.size A) (f19 mL (Run Tryz.prog rxA) (Dcall Tryz.prog rxA) (encRx r) (.int .i64 left) A) := by
  refine Rx.ind ?_
  intro r ih hr left h0 h1 A
  have hl := hr.len
  unfold f19
  (repeat' first | (with_reducible first | apply Tot.of (qax rfl) | apply Tot.of (st_it rfl)) | ((conv => arg 2; arg 1; simp (disch := first | omega | assumption) only [binO_sub, qan, qae, qao, ofCellsS, Nat.zero_add, qaf, qaz, ld_sh0, ldc0, List.length_map, rx_box]); (with_reducible first | apply Tot.of (qaa rfl))))
  have := s19_loop A r hr (fun k hk m h1 h2 A => ih k hk (hr.kid hk) m h1 h2 A) r.ks 0 (left - 1) [.cells [.int .i64 r.op, .str r.nm, encL 3 (r.ks.map encRx)]] rfl (by omega) (by omega)
  conv => arg 2; simp (disch := first | omega | assumption) only [qaf]
  refine Tot.mono this fun y hy => ?_
  obtain ⟨N, rfl, h5, h6⟩ := hy
  have e1 := Rx.size_eq r
  exact ⟨N, rfl, by omega, by omega⟩
/-! measure -/
def measOut (most deep : Int) (size depth : Int) (A : St) (x : Res × St) : Prop :=
  x = (.ret (if size ≤ most ∧ depth ≤ deep then .tup [.int .i64 size, .int .i64 depth, .bool true] else .tup [.int .i64 0, .int .i64 0, .bool false]), A)
theorem s20_loop (A : St) (r : Rx) (hr : r.Ok) (most deep : Int) (hm : 1 ≤ most) (hm2 : most ≤ 1000000) (hd1 : 1 ≤ deep) (hd2 : deep ≤ 1000000)
    (hk : ∀ k, k ∈ r.ks → ∀ m, m ≤ 1000000 → -1000000 ≤ m → ∀ A, Tot (measOut m (deep - 1) k.size k.depth A) (f20 mL (Run Tryz.prog rxA) (Dcall Tryz.prog rxA) (encRx k) (.int .i64 m) (.int .i64 (deep - 1)) A)) :
    ∀ (t : List Rx) (i : Nat) (n d : Int) (L : St), r.ks.drop i = t → 0 ≤ n → n ≤ most → 0 ≤ d → d ≤ deep - 1 →
    Tot (measOut most deep (n + (Rx.sizes t : Int)) (max d (Rx.depths t : Int) + 1) A) (iterK (f20_s0 mL (Run Tryz.prog rxA) (Dcall Tryz.prog rxA) A) (Env.mk (sp [(1, .int .i64 most), (0, .int .i64 deep), (6, .int .i64 n), (0, .int .i64 d), (12, encL 3 (r.ks.map encRx)), (0, .int .i64 (r.ks.length : Nat)), (0, .int .i64 (i : Nat))] 26) []) (A ++ L)) := by
  intro t
  have hl := hr.len
  induction t with
  | nil =>
    intro i n d L ht h1 h2 h3 h4
    have hl1 := drop_len ht
    refine Tot.iter ?_
    conv => arg 2; arg 1; unfold f20_s0
    (repeat' first | (with_reducible first | apply Tot.of (qag rfl) | apply Tot.of (qa0 rfl) | apply Tot.of (qac rfl) | apply Tot.of (st_inr rfl) | apply Tot.of (qas rfl) | apply Tot.bql (b := false) | apply Tot.iff) | ((conv => arg 2; arg 1; simp (disch := first | omega | assumption) only [qah, Option.map_some, qap, qan, qa1, qav, shut_tup, shutL_nil, shutL_cons, qar, qad, qaq, qai, qaj, qak, qaf, qam, qat, canon_tup, canonL_nil, canonL_cons, qab, qal, List.take_left']); (with_reducible first | apply Tot.of (qaa rfl) | (apply Tot.lss_f; omega))))
    ((try conv => arg 2; simp (disch := first | omega | assumption) only []); refine Tot.ret ?_)
    unfold measOut
    have e1 : max d ((Rx.depths ([] : List Rx) : Nat) : Int) = d := by simp only [Rx.depths]; omega
    have e2 : n + ((Rx.sizes ([] : List Rx) : Nat) : Int) = n := by simp only [Rx.sizes]; omega
    rw [e1, e2, if_pos (by omega)]
  | cons k t ih =>
    intro i n d L ht h1 h2 h3 h4
    have hl1 := drop_lt ht
    have hx := idx_drop (f := encRx) ht 3 true .i64
    have hsz : Rx.sizes (k :: t) = k.size + Rx.sizes t := rfl
    have hdp : Rx.depths (k :: t) = max k.depth (Rx.depths t) := rfl
    have hsp := Rx.size_pos k
    refine Tot.iter ?_
    conv => arg 2; arg 1; unfold f20_s0
    have hkk := hk k (drop_mem ht) (most - n) (by omega) (by omega)
    (repeat' first | (with_reducible first | apply Tot.of (qag rfl) | apply Tot.of (qax rfl) | apply Tot.of (qac rfl) | apply Tot.bql (b := true) | apply Tot.ift) | ((conv => arg 2; arg 1; simp (disch := first | omega | assumption) only [binO_sub, qan, qau, alloc_eq, ofA3, List.length_append, qai, qaj, qak, mp_some, qaf, app_one, ld_sh, ld_sh0, ldc0, sto_sh, sto_sh0, stoc0, hx, rx_cell, rx_fold, rx_lay]); (with_reducible first | apply Tot.of (qaa rfl) | (apply Tot.lss_t; omega))))
    conv => arg 2; arg 1; simp (disch := first | omega | assumption) only [qam, rx_canon, r20]
    refine Tot.bn (hkk _) fun x hx => ?_
    unfold measOut at hx
    by_cases hc : (k.size : Int) ≤ most - n ∧ (k.depth : Int) ≤ deep - 1
    · rw [if_pos hc] at hx
      subst hx
      have := ih (i + 1) (n + k.size) (max d k.depth) L (drop_succ ht) (by omega) (by omega) (by omega) (by omega)
      (repeat' first | (with_reducible first | apply Tot.of (qaa rfl) | apply Tot.of (qag rfl) | apply Tot.of (qac rfl) | apply Tot.of (st_bnelim rfl) | apply Tot.of (qaw rfl) | apply Tot.of (qa3 rfl) | apply Tot.of (qay rfl) | apply Tot.of (st_bngk rfl) | apply Tot.bql (b := false) | apply Tot.iff) | ((conv => arg 2; arg 1; simp (disch := first | omega | assumption) only [qap, qan, un_not, Bool.not_true, qai, qaj, qak, qaf, ext0, extS, Kept_app2, minmax_t]); (with_reducible first | apply Tot.of (qaa rfl) | apply Tot.of (st_guard rfl))))
      conv => arg 2; simp (disch := first | omega | assumption) only [qa1, List.map_nil, List.length_append, qai, qaj, qak, take_app2, rxs_shut]
      refine Tot.mono this fun y hy => ?_
      unfold measOut at hy ⊢
      rw [hy, hsz, hdp]
      have e1 : n + ((k.size + Rx.sizes t : Nat) : Int) = n + k.size + (Rx.sizes t : Int) := by omega
      have e2 : max d ((max k.depth (Rx.depths t) : Nat) : Int) = max (max d (k.depth : Int)) (Rx.depths t : Int) := by omega
      rw [e1, e2]
    · rw [if_neg hc] at hx
      subst hx
      (repeat' first | (with_reducible first | apply Tot.of (qag rfl) | apply Tot.of (qa0 rfl) | apply Tot.of (qac rfl) | apply Tot.of (st_bnelim rfl) | apply Tot.of (qa3 rfl) | apply Tot.of (st_inr rfl) | apply Tot.of (qas rfl) | apply Tot.bql (b := true) | apply Tot.ift) | ((conv => arg 2; arg 1; simp (disch := first | omega | assumption) only [qah, Option.map_some, qa1, qav, shut_tup, shutL_nil, shutL_cons, qar, qad, qaq, un_not, Bool.not_false, qaf, qam, qat, canon_tup, canonL_nil, canonL_cons, qab, qal, List.take_left', ext0, extS]); (with_reducible first | apply Tot.of (qaa rfl))))
      ((try conv => arg 2; simp (disch := first | omega | assumption) only []); refine Tot.ret ?_)
      unfold measOut
      rw [if_neg (by rw [hsz, hdp]; omega)]
theorem s20 : ∀ (r : Rx) (hr : r.Ok) (deep most : Int) (hd : deep ≤ 1000000) (hd0 : -1000000 ≤ deep) (hm0 : -1000000 ≤ most) (hm : most ≤ 1000000) (A : St), Tot (measOut most deep r.size r.depth A) (f20 mL (Run Tryz.prog rxA) (Dcall Tryz.prog rxA) (encRx r) (.int .i64 most) (.int .i64 deep) A) := by
  refine Rx.ind ?_
  intro r ih hr deep most hd hd0 hm0 hm A
  have hp := Rx.depth_pos r
  have hp2 := Rx.size_pos r
  have hl := hr.len
  unfold f20
  (repeat' first | (with_reducible first | apply Tot.of (qaa rfl) | apply Tot.of (qax rfl) | apply Tot.of (qac rfl) | apply Tot.of (st_leave rfl) | apply Tot.of (st_it rfl) | apply Tot.gbl (b := true) | apply Tot.gbl (b := false) | apply Tot.bql (b := true) | apply Tot.bql (b := false) | apply Tot.ift | apply Tot.iff | apply Tot.iftf | apply Tot.ifff) | ((conv => arg 2; arg 1; simp (disch := first | omega | assumption) only [qa2, ifb_false, qae, qao, ofCellsS, Nat.zero_add, qaf, qaz, ld_sh0, ldc0, List.length_map, rx_box]); (with_reducible first | apply Tot.of (qaa rfl) | apply Tot.bql (b := true) | apply Tot.bql (b := false) | (apply Tot.lss; all_goals intro hsp))))
  · ((try conv => arg 2; simp (disch := first | omega | assumption) only [qah, qa1, qav, shut_tup, shutL_nil, shutL_cons, qar, qad, qaf, qam, qat, canon_tup, canonL_nil, canonL_cons, qab, qal, List.take_left']); refine Tot.ret ?_)
    unfold measOut
    rw [if_neg (by omega)]
  · ((try conv => arg 2; simp (disch := first | omega | assumption) only [qah, qa1, qav, shut_tup, shutL_nil, shutL_cons, qar, qad, qaf, qam, qat, canon_tup, canonL_nil, canonL_cons, qab, qal, List.take_left']); refine Tot.ret ?_)
    unfold measOut
    rw [if_neg (by omega)]
  · have := s20_loop A r hr most deep (by omega) hm (by omega) hd (fun k hk m h1 h2 A => ih k hk (hr.kid hk) (deep - 1) m (by omega) (by omega) h2 h1 A) r.ks 0 1 0 [.cells [.int .i64 r.op, .str r.nm, encL 3 (r.ks.map encRx)]] rfl (by omega) (by omega) (by omega) (by omega)
    conv => arg 2; simp (disch := first | omega | assumption) only [qaf]
    refine Tot.mono this fun y hy => ?_
    unfold measOut at hy ⊢
    rw [hy, Rx.size_eq, Rx.depth_eq]
    have e1 : ((Rx.sizes r.ks + 1 : Nat) : Int) = 1 + (Rx.sizes r.ks : Int) := by omega
    have e2 : ((Rx.depths r.ks + 1 : Nat) : Int) = max 0 (Rx.depths r.ks : Int) + 1 := by omega
    rw [e1, e2]
end Go.Vm.Rx

/- Which expressions may be: both texts' answers. -/
namespace Go.Vm.Rx
open Go Go.Proofs P
set_option linter.unusedVariables false
set_option linter.unusedSimpArgs false
set_option maxRecDepth 10000
set_option maxHeartbeats 2000000
/-- is a kid not right, or of its node's kind? -/
def badKid (op : Int) (k : Rx) : Bool := (decide (op = 4) || decide (op = 5)) && decide (k.op = op) || !k.right
theorem s45 (r k : Rx) (j : Nat) (B : St) (hj : j < B.length) (hB : B[j]? = some (.cells [.int .i64 r.op, .str r.nm, encL 3 (r.ks.map encRx)]))
    (hk : ∀ A, f21 mL (Run Tryz.prog rxA) (Dcall Tryz.prog rxA) (encRx k) A = some (.ret (.bool k.right), A)) : f45 mL (Run Tryz.prog rxA) (Dcall Tryz.prog rxA) (encRx k) (.ref j 0) B = some (.ret (.bool (badKid r.op k)), B) := by
  have hld : ∀ L, loadO false 1 (.ref j 0) (B ++ L) = some (.int .i64 r.op) := fun L => by
    rw [ld_old hj, load_ref hB]; rfl
  unfold f45
  refine Tot.eq ?_
  (repeat' first | (with_reducible first | apply Tot.of (qaa rfl) | apply Tot.of (qax rfl) | apply Tot.of (qac rfl) | apply Tot.of (qa3 rfl) | apply Tot.of (st_leave rfl) | apply Tot.gbl (b := true) | apply Tot.gbl (b := false) | apply Tot.bql (b := true) | apply Tot.bql (b := false) | apply Tot.iftt | apply Tot.ifft | apply Tot.iftf | apply Tot.ifff | (apply Tot.eql; all_goals intro hsp)) | ((conv => arg 2; arg 1; simp (disch := first | omega | assumption) only [qa2, ifb_false, qae, qao, Nat.add_zero, ofA3, un_not, qaf, ld_sh0, ldc0, rx_box, hld, rx_fold, rx_canon, r21, hk]); (with_reducible first | apply Tot.of (qaa rfl) | apply Tot.gbl (b := true) | apply Tot.gbl (b := false) | apply Tot.bql (b := true) | apply Tot.bql (b := false) | (apply Tot.eql; all_goals intro hsp))))
  all_goals (((try conv => arg 2; simp (disch := first | omega | assumption) only [qa2, ifb_false, qah, qav, qar, qad, qat, qab, qal, List.take_left']); refine Tot.ret ?_); unfold badKid; by_cases h1 : r.op = 4 <;> by_cases h2 : r.op = 5 <;> by_cases h3 : k.op = r.op <;> first | (exfalso; omega) | simp_all)
theorem s62_loop (r : Rx) (hr : r.Ok) (j : Nat) (B : St) (hj : j < B.length) (hB : B[j]? = some (.cells [.int .i64 r.op, .str r.nm, encL 3 (r.ks.map encRx)]))
    (hk : ∀ k, k ∈ r.ks → ∀ A, f21 mL (Run Tryz.prog rxA) (Dcall Tryz.prog rxA) (encRx k) A = some (.ret (.bool k.right), A)) : ∀ (t : List Rx) (i : Nat), r.ks.drop i = t →
    iterK (f62_s0 mL (Run Tryz.prog rxA) (Dcall Tryz.prog rxA) B) (Env.mk (sp [(0, encL 3 (r.ks.map encRx)), (0, .fn (.func 45) [] [.ref j 0]), (5, .int .i64 (r.ks.length : Nat)), (0, .int .i64 (i : Nat))] 10) []) B =
      some (.ret (.int .i64 (match t.findIdx? (badKid r.op) with | some q => ((i + q : Nat) : Int) | none => -1)), B) := by
  intro t
  have hl := hr.len
  have hshf : (D.fn (.func 45) [] [.ref j 0]).shut B.length = .fn (.func 45) [] [.ref j 0] := by
    simp only [D.shut, D.shutL, hj, if_true]
  induction t with
  | nil =>
    intro i ht
    have h1 := drop_len ht
    refine Tot.eq (Tot.iter ?_)
    conv => arg 2; arg 1; unfold f62_s0
    (repeat' first | (with_reducible first | apply Tot.of (qag rfl) | apply Tot.of (qa0 rfl) | apply Tot.of (qac rfl) | apply Tot.of (st_inr rfl) | apply Tot.of (qas rfl) | apply Tot.bql (b := false) | apply Tot.iff) | ((conv => arg 2; arg 1; simp (disch := first | omega | assumption) only [qah, Option.map_some, qa1, Kept_refl, qad, qaq, List.take_length, qai, qaj, qak, qaf, qam, qab, qal]); (with_reducible first | apply Tot.of (qaa rfl) | (apply Tot.lss_f; omega))))
    ((try conv => arg 2; simp (disch := first | omega | assumption) only []); refine Tot.ret ?_)
    rfl
  | cons k t ih =>
    intro i ht
    have h1 := drop_lt ht
    have hx := idx_drop (f := encRx) ht 3 true .i64
    have hkk := s45 r k j B hj hB (hk k (drop_mem ht))
    have hcl : applyD (Run Tryz.prog rxA) (.fn (.func 45) [] [.ref j 0]) [encRx k] B = some (.ret (.bool (badKid r.op k)), B) := by
      rw [app_fn]
      show Run Tryz.prog rxA 45 [encRx k, .ref j 0] B = _
      rw [r45, rx_canon]
      exact hkk
    refine Tot.eq (Tot.iter ?_)
    conv => arg 2; arg 1; unfold f62_s0
    (repeat' first | (with_reducible first | apply Tot.of (qaa rfl) | apply Tot.of (qag rfl) | apply Tot.of (qa0 rfl) | apply Tot.of (qax rfl) | apply Tot.of (qac rfl) | apply Tot.of (st_bnelim rfl) | apply Tot.of (qaw rfl) | apply Tot.of (qa3 rfl) | apply Tot.of (qay rfl) | apply Tot.of (st_inr rfl) | apply Tot.of (st_bngk rfl) | apply Tot.of (qas rfl) | apply Tot.bql (b := true) | apply Tot.ift | apply Tot.iff | (apply Tot.bq; all_goals intro hsp)) | ((conv => arg 2; arg 1; simp (disch := first | omega | assumption) only [qah, Option.map_some, qap, qan, qa1, Kept_refl, qad, qaq, qau, List.take_length, ofA3, qai, qaj, qak, mp_some, qaf, qam, qab, qal, hx, rx_cell, rx_fold, hcl]); (with_reducible first | apply Tot.of (qaa rfl) | apply Tot.of (st_guard rfl) | (apply Tot.lss_t; omega))))
    · ((try conv => arg 2; simp (disch := first | omega | assumption) only []); refine Tot.ret ?_)
      simp only [List.findIdx?_cons, *, if_true]
      simp
    · have := ih (i + 1) (drop_succ ht)
      conv => arg 2; simp (disch := first | omega | assumption) only [qa1, List.take_length, List.map_nil, qai, qaj, qak, rxs_shut, hshf]
      refine Tot.of_eq ?_
      simp only [List.findIdx?_cons, *, if_false, Bool.false_eq_true]
      cases hf : t.findIdx? (badKid r.op) with
      | none => rw [hf] at this; exact this
      | some q =>
        rw [hf] at this
        have e : ((i + 1 + q : Nat) : Int) = ((i + (q + 1) : Nat) : Int) := by omega
        simp only [Option.map_some]
        rw [← e]; exact this
theorem s44 (r : Rx) (hr : r.Ok) (j : Nat) (B : St) (hj : j < B.length) (hB : B[j]? = some (.cells [.int .i64 r.op, .str r.nm, encL 3 (r.ks.map encRx)]))
    (hk : ∀ k, k ∈ r.ks → ∀ A, f21 mL (Run Tryz.prog rxA) (Dcall Tryz.prog rxA) (encRx k) A = some (.ret (.bool k.right), A)) :
    f44 mL (Run Tryz.prog rxA) (Dcall Tryz.prog rxA) (encL 3 (r.ks.map encRx)) (.fn (.func 45) [] [.ref j 0]) B = some (.ret (.bool (r.ks.any (badKid r.op))), B) := by
  have hcf : (D.fn (.func 45) [] [.ref j 0]).canon = .fn (.func 45) [] [.ref j 0] := rfl
  have hi : f62 mL (Run Tryz.prog rxA) (Dcall Tryz.prog rxA) (encL 3 (r.ks.map encRx)) (.fn (.func 45) [] [.ref j 0]) B = some (.ret (.int .i64 (match r.ks.findIdx? (badKid r.op) with | some q => ((0 + q : Nat) : Int) | none => -1)), B) := by
    have := s62_loop r hr j B hj hB hk r.ks 0 rfl
    unfold f62
    refine Tot.eq ?_
    (repeat' first | (with_reducible first | apply Tot.of (st_it rfl)) | ((conv => arg 2; arg 1; simp (disch := first | omega | assumption) only [qaz, List.length_map]); (with_reducible first | apply Tot.of (qaa rfl))))
    (refine Tot.of_eq ?_; (conv => lhs; simp (disch := first | omega | assumption) only [qaf]); exact this)
  have hany : r.ks.any (badKid r.op) = (r.ks.findIdx? (badKid r.op)).isSome := by rw [List.findIdx?_isSome]
  unfold f44
  rw [hany]
  refine Tot.eq ?_
  cases hf : r.ks.findIdx? (badKid r.op) with
  | none =>
    rw [hf] at hi
    simp only at hi
    (repeat' first | (with_reducible first | apply Tot.of (qa3 rfl) | apply Tot.of (st_leave rfl)) | ((conv => arg 2; arg 1; simp (disch := first | omega | assumption) only [qaf, rxs_canon, hcf, r62, hi]); (with_reducible first | apply Tot.of (qaa rfl) | (apply Tot.geq_f; omega))))
    ((try conv => arg 2; simp (disch := first | omega | assumption) only [qah, qav, Kept_refl, qad, List.take_length, qat, qab, qal]); refine Tot.ret ?_)
    rfl
  | some q =>
    rw [hf] at hi
    simp only at hi
    (repeat' first | (with_reducible first | apply Tot.of (qa3 rfl) | apply Tot.of (st_leave rfl)) | ((conv => arg 2; arg 1; simp (disch := first | omega | assumption) only [Nat.zero_add, qaf, rxs_canon, hcf, r62, hi]); (with_reducible first | apply Tot.of (qaa rfl) | (apply Tot.geq_t; omega))))
    ((try conv => arg 2; simp (disch := first | omega | assumption) only [qah, qav, Kept_refl, qad, List.take_length, qat, qab, qal]); refine Tot.ret ?_)
    rfl
theorem rights_any (op : Int) : ∀ (ks : List Rx), ks.any (badKid op) = !(Rx.rights ks && !((decide (op = 4) || decide (op = 5)) && hasOp op ks))
  | [] => by simp [Rx.rights, hasOp]
  | k :: ks => by
    have := rights_any op ks
    simp only [List.any_cons, this, Rx.rights, hasOp, badKid]
    have e : (k.op == op) = decide (k.op = op) := by rw [Bool.eq_iff_iff]; simp
    rw [e]
    generalize (decide (op = 4) || decide (op = 5)) = a
    generalize decide (k.op = op) = b
    generalize k.right = c
    generalize Rx.rights ks = d
    generalize (ks.any fun k => k.op == op) = f
    cases a <;> cases b <;> cases c <;> cases d <;> cases f <;> rfl
theorem s21 : ∀ (r : Rx) (hr : r.Ok) (A : St), f21 mL (Run Tryz.prog rxA) (Dcall Tryz.prog rxA) (encRx r) A = some (.ret (.bool r.right), A) := by
  refine Rx.ind ?_
  intro r ih hr A
  have hl := hr.len
  have hn := hr.nml
  have hcf : (D.fn (.func 45) [] [.ref A.length 0]).canon = .fn (.func 45) [] [.ref A.length 0] := rfl
  have hct := s44 r hr A.length (A ++ [.cells [.int .i64 r.op, .str r.nm, encL 3 (r.ks.map encRx)]]) (by simp) (by simp) (fun k hk A => ih k hk (hr.kid hk) A)
  unfold f21
  refine Tot.eq ?_
  (repeat' first | (with_reducible first | apply Tot.of (qaa rfl) | apply Tot.of (qax rfl) | apply Tot.of (qac rfl) | apply Tot.of (qa3 rfl) | apply Tot.of (st_leave rfl) | apply Tot.gbl (b := true) | apply Tot.gbl (b := false) | apply Tot.gbn | apply Tot.bql (b := true) | apply Tot.bql (b := false) | apply Tot.ift | apply Tot.iff | apply Tot.iftt | apply Tot.ifft | apply Tot.iftf | apply Tot.ifff | apply Tot.if_n | (apply Tot.sneq; all_goals intro hsp) | (apply Tot.gb_t; assumption) | (apply Tot.gb_f; assumption) | (apply Tot.bq_t; assumption) | (apply Tot.bq_f; assumption) | (apply Tot.gb; all_goals intro hsp)) | ((conv => arg 2; arg 1; simp (disch := first | omega | assumption) only [qa2, ifb_false, qae, qao, ofCellsS, Nat.zero_add, Nat.add_zero, un_not, Bool.not_true, Bool.not_false, qaf, canon_str, qaz, ld_sh0, ldc0, List.length_map, neq_tt, neq_tf, neq_ft, neq_ff, rx_box, r43, s43, rxs_canon, hcf, r44, hct]); (with_reducible first | apply Tot.of (qaa rfl) | apply Tot.gbl (b := true) | apply Tot.gbl (b := false) | apply Tot.bql (b := true) | apply Tot.bql (b := false) | apply Tot.gb_n | apply Tot.bq_n | (apply Tot.gtr; all_goals intro hsp) | (apply Tot.eql; all_goals intro hsp) | (apply Tot.neq; all_goals intro hsp))))
  all_goals (((try conv => arg 2; simp (disch := first | omega | assumption) only [qah, qav, qar, qad, qat, qab, qal, List.take_left', rights_any]); refine Tot.ret ?_); rw [Rx.right_eq, nodeOk_int])
  all_goals (simp (disch := first | omega | assumption) only [iT, iF, dT, dF, *, Bool.and_true, Bool.true_and, Bool.and_false, Bool.false_and, Bool.or_true, Bool.true_or, Bool.or_false, Bool.false_or, Bool.not_true, Bool.not_false, Bool.not_not])
  all_goals first
    | done
    | rfl
    | (cases Rx.rights r.ks <;> cases hasOp 4 r.ks <;> rfl)
    | (cases Rx.rights r.ks <;> cases hasOp 5 r.ks <;> rfl)
    | (simp; done)
end Go.Vm.Rx

/- Check and Size: both texts' answers. -/
namespace Go.Vm.Rx
open Go Go.Proofs P
set_option linter.unusedVariables false
set_option linter.unusedSimpArgs false
set_option maxRecDepth 10000
set_option maxHeartbeats 2000000
theorem s13 (r : Rx) (hr : r.Ok) (A : St) : f13 mL (Run Tryz.prog rxA) (Dcall Tryz.prog rxA) (encRx r) A = some (.ret (.int .i64 r.check), A) := by
  have h1 := fun A => s28 r hr 100001 1000 (by omega) (by omega) (by omega) (by omega) A
  have h2 := fun A => s29 r hr 100 (by omega) (by omega) A
  have h3 := fun A => s30 r hr A
  have hdl := Rx.depth_le r
  unfold f13
  refine Tot.eq ?_
  (repeat' first | (with_reducible first | apply Tot.of (qax rfl)) | ((conv => arg 2; arg 1; simp (disch := first | omega | assumption) only [ofA3, ld_sh0, ldc0, rx_box, rx_fold]); (with_reducible first | apply Tot.of (qaa rfl))))
  conv => arg 2; arg 1; simp (disch := first | omega | assumption) only [qaf, qam, rx_canon, r28]
  refine Tot.bn (h1 _) fun x hx => ?_
  obtain ⟨n, d, rfl, hg, hb, _⟩ := hx
  (repeat' first | (with_reducible first | apply Tot.of (qax rfl) | apply Tot.of (qa3 rfl) | apply Tot.of (st_leave rfl) | apply Tot.bql (b := true) | apply Tot.bql (b := false) | apply Tot.ift | apply Tot.iff | apply Tot.if_n | apply Tot.bq_n | (apply Tot.bq_d; all_goals intro hsp) | (apply Tot.bq; all_goals intro hsp)) | ((conv => arg 2; arg 1; simp (disch := first | omega | assumption) only [ofA3, un_not, qaf, qam, ld_sh0, ldc0, ext0, extS, rx_fold, rx_canon, r29, r30, h2, h3]); (with_reducible first | apply Tot.of (qaa rfl) | (apply Tot.gtr; all_goals intro hsp))))
  all_goals (((try conv => arg 2; simp (disch := first | omega | assumption) only [qah, qa1, qar, qad, qaf, qam, qab, qal, List.take_left']); refine Tot.ret ?_); unfold Rx.check)
  all_goals simp (disch := first | omega | assumption) only [iT, iF, *, if_true, if_false, Bool.false_eq_true]
theorem s11 (r : Rx) (hr : r.Ok) (A : St) : f11 mL (Run Tryz.prog rxA) (Dcall Tryz.prog rxA) (encRx r) A = some (.ret (.int .i64 r.check), A) := by
  have h1 := fun A => s19 r hr 1000 (by omega) (by omega) A
  have h2 := fun A => s20 r hr 100 1000 (by omega) (by omega) (by omega) (by omega) A
  have h3 := fun A => s21 r hr A
  have hdl := Rx.depth_le r
  unfold f11
  refine Tot.eq ?_
  (repeat' first | (with_reducible first | apply Tot.of (qax rfl)) | ((conv => arg 2; arg 1; simp (disch := first | omega | assumption) only [ofA3, ld_sh0, ldc0, rx_box, rx_fold]); (with_reducible first | apply Tot.of (qaa rfl))))
  conv => arg 2; arg 1; simp (disch := first | omega | assumption) only [qaf, qam, rx_canon, r19]
  refine Tot.bn (h1 _) fun x hx => ?_
  obtain ⟨n, rfl, hg, hb⟩ := hx
  (repeat' first | (with_reducible first | apply Tot.of (qax rfl) | apply Tot.of (qa3 rfl) | apply Tot.of (st_leave rfl) | apply Tot.bql (b := true) | apply Tot.bql (b := false) | apply Tot.ift | apply Tot.iff) | ((conv => arg 2; arg 1; simp (disch := first | omega | assumption) only [ofA3, qaf, ld_sh0, ldc0, rx_fold]); (with_reducible first | apply Tot.of (qaa rfl) | (apply Tot.lss; all_goals intro hsp))))
  · ((try conv => arg 2; simp (disch := first | omega | assumption) only [qah, qa1, qar, qad, qaf, qam, qab, qal, List.take_left']); refine Tot.ret ?_)
    unfold Rx.check
    rw [if_pos (by omega)]
  · conv => arg 2; arg 1; simp (disch := first | omega | assumption) only [qaf, qam, rx_canon, r20]
    refine Tot.bn (h2 _) fun x hx => ?_
    unfold measOut at hx
    by_cases hc : (r.size : Int) ≤ 1000 ∧ (r.depth : Int) ≤ 100
    · rw [if_pos hc] at hx
      subst hx
      (repeat' first | (with_reducible first | apply Tot.of (qax rfl) | apply Tot.of (qa3 rfl) | apply Tot.of (st_leave rfl) | apply Tot.bql (b := false) | apply Tot.ift | apply Tot.iff | apply Tot.if_n | apply Tot.bq_n | (apply Tot.bq; all_goals intro hsp)) | ((conv => arg 2; arg 1; simp (disch := first | omega | assumption) only [ofA3, un_not, Bool.not_true, ld_sh0, ldc0, ext0, extS, rx_fold, rx_canon, r21, h3]); (with_reducible first | apply Tot.of (qaa rfl))))
      all_goals (((try conv => arg 2; simp (disch := first | omega | assumption) only [qah, qa1, qar, qad, qaf, qam, qab, qal, List.take_left']); refine Tot.ret ?_); unfold Rx.check)
      all_goals simp (disch := first | omega | assumption) only [iT, iF, *, if_true, if_false, Bool.false_eq_true]
    · rw [if_neg hc] at hx
      subst hx
      (repeat' first | (with_reducible first | apply Tot.of (qa3 rfl) | apply Tot.of (st_leave rfl) | apply Tot.bql (b := true) | apply Tot.ift) | ((conv => arg 2; arg 1; simp (disch := first | omega | assumption) only [un_not, Bool.not_false, ext0, extS]); (with_reducible first | apply Tot.of (qaa rfl))))
      all_goals (((try conv => arg 2; simp (disch := first | omega | assumption) only [qah, qa1, qar, qad, qaf, qam, qab, qal, List.take_left']); refine Tot.ret ?_); unfold Rx.check)
      all_goals simp (disch := first | omega | assumption) only [iT, iF, *, if_true, if_false, Bool.false_eq_true]
end Go.Vm.Rx

/- The reference's reader of words: its small functions. -/
namespace Go.Vm.Rx
open Go Go.Proofs P
set_option linter.unusedVariables false
set_option linter.unusedSimpArgs false
set_option maxRecDepth 10000
set_option maxHeartbeats 2000000
end Go.Vm.Rx

/- Several expressions as one: the reference's Joined. -/
namespace Go.Vm.Rx
open Go Go.Proofs P
set_option linter.unusedVariables false
set_option linter.unusedSimpArgs false
set_option maxRecDepth 10000
set_option maxHeartbeats 2000000
/-- several as one, as the reference has it -/
theorem encRx_mk (op : Int) (nm : Str) (ks : List Rx) : encRx (.mk op nm ks) = .agg [.int .i64 op, .str nm, encL 3 (ks.map encRx)] := encRx_eq _
end Go.Vm.Rx
