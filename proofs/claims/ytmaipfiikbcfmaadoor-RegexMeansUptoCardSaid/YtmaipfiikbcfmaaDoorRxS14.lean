/- RxS10, RxS11, RxS12, RxS13, RxS14 in one text. -/
import Derived.Test.YtmaipfiikbcfmaaDoorRxS9
import Derived.Test.YtmaipfiikbcfmaaDoorVmSt2
set_option linter.all false
/- What the program's tests of expressions come to. -/
namespace Go.Vm.Rx
open Go Go.Proofs P
set_option linter.unusedVariables false
set_option linter.unusedSimpArgs false
set_option maxRecDepth 10000
set_option maxHeartbeats 1000000
theorem rx_lay (r : Rx) (a b c : D) : layCells true 3 0 [a, b, c] (encRx r) = some [.int .i64 r.op, .str r.nm, encL 3 (r.ks.map encRx)] := by
  rw [encRx_eq]
  simp [layCells, D.cellsT, D.agg?, allCells, D.cell?, splice, encL]
/-! few -/
def fewOut (left size : Int) (A : St) (x : Res × St) : Prop := ∃ n : Int, x = (.ret (.int .i64 n), A) ∧ (size ≤ left → n = left - size) ∧ (¬ size ≤ left → n = -1)
theorem s43_loop (A : St) (r : Rx) (hr : r.Ok) (hk : ∀ k, k ∈ r.ks → ∀ m, 0 ≤ m → m ≤ 1000000 → ∀ A, Tot (fewOut m k.size A) (f43 mL (Run Tryd.prog rxA) (Dcall Tryd.prog rxA) (encRx k) (.int .i64 m) A)) :
    ∀ (t : List Rx) (i : Nat) (n : Int) (L : St), r.ks.drop i = t → -1 ≤ n → n ≤ 1000000 →
    Tot (fewOut n (Rx.sizes t) A) (iterK (f43_s0 mL (Run Tryd.prog rxA) (Dcall Tryd.prog rxA) A) (Env.mk (sp [(1, .int .i64 n), (8, encL 3 (r.ks.map encRx)), (0, .int .i64 (r.ks.length : Nat)), (0, .int .i64 (i : Nat))] 11) []) (A ++ L)) := by
  intro t
  have hl := hr.len
  induction t with
  | nil =>
    intro i n L ht h1 h2
    have hl1 := drop_len ht
    refine Tot.iter ?_
    conv => arg 2; arg 1; unfold f43_s0
    (repeat' first | (with_reducible first | apply Tot.of (qai rfl) | apply Tot.of (st_map rfl) | apply Tot.of (qae rfl) | apply Tot.of (st_inr rfl) | apply Tot.of (qat rfl) | apply Tot.bql (b := false) | apply Tot.iff) | ((conv => arg 2; arg 1; simp (disch := first | omega | assumption) only [qad, Option.map_some, shut_int, qak, qac, qas, qan, qap, qaq, qaj, qab, qag, List.take_left']); (with_reducible first | apply Tot.of (qaa rfl) | (apply Tot.lss_f; omega))))
    ((try conv => arg 2; simp (disch := first | omega | assumption) only []); refine Tot.ret ?_)
    refine ⟨n, rfl, ?_, ?_⟩ <;> (try simp only [Rx.sizes]) <;> omega
  | cons k t ih =>
    intro i n L ht h1 h2
    have hl1 := drop_lt ht
    have hx := idx_drop (f := encRx) ht 3 true .i64
    have hsz : Rx.sizes (k :: t) = k.size + Rx.sizes t := rfl
    have hsp := Rx.size_pos k
    refine Tot.iter ?_
    conv => arg 2; arg 1; unfold f43_s0
    by_cases hn : 0 ≤ n
    · have hkk := hk k (drop_mem ht) n hn h2
      (repeat' first | (with_reducible first | apply Tot.of (qai rfl) | apply Tot.of (st_mp rfl) | apply Tot.of (qae rfl) | apply Tot.bql (b := true) | apply Tot.bql (b := false) | apply Tot.ift | apply Tot.iff) | ((conv => arg 2; arg 1; simp (disch := first | omega | assumption) only [load_peek, alloc_eq, ofA3, List.length_append, qan, qap, qaq, mp_some, qaf, app_one, ld_sh, ld_sh0, ldc0, sto_sh, sto_sh0, stoc0, hx, rx_cell, rx_fold, rx_lay]); (with_reducible first | apply Tot.of (qaa rfl) | (apply Tot.lss_t; omega) | (apply Tot.lss_f; omega))))
      conv => arg 2; arg 1; simp (disch := first | omega | assumption) only [qan, qap, qaj, rx_canon, r43]
      refine Tot.bn (hkk _) fun x hx => ?_
      obtain ⟨m, rfl, hg, hb⟩ := hx
      (repeat' first | (with_reducible first | apply Tot.of (qaa rfl) | apply Tot.of (qai rfl) | apply Tot.of (st_bnelim rfl) | apply Tot.of (st_bnguard rfl) | apply Tot.of (st_ret rfl) | apply Tot.of (st_inl rfl) | apply Tot.of (st_bngk rfl)) | ((conv => arg 2; arg 1; simp (disch := first | omega | assumption) only [qar, qam, qan, qap, qaq, qaf, Kept_app2]); (with_reducible first | apply Tot.of (qaa rfl) | apply Tot.of (st_guard rfl))))
      have := ih (i + 1) m L (drop_succ ht) (by omega) (by omega)
      conv => arg 2; simp (disch := first | omega | assumption) only [shut_int, List.map_nil, List.length_append, qan, qap, qaq, take_app2, rxs_shut]
      refine Tot.mono this fun y hy => ?_
      obtain ⟨N, rfl, h5, h6⟩ := hy
      refine ⟨N, rfl, ?_, ?_⟩ <;> rw [hsz] <;> omega
    · (repeat' first | (with_reducible first | apply Tot.of (qai rfl) | apply Tot.of (st_map rfl) | apply Tot.of (st_mp rfl) | apply Tot.of (qae rfl) | apply Tot.of (st_inr rfl) | apply Tot.of (qat rfl) | apply Tot.bql (b := true) | apply Tot.ift) | ((conv => arg 2; arg 1; simp (disch := first | omega | assumption) only [qad, Option.map_some, shut_int, qak, qac, qas, load_peek, alloc_eq, ofA3, List.length_append, qan, qap, qaq, mp_some, qaf, qaj, qab, qag, app_one, sto_sh, sto_sh0, stoc0, List.take_left', hx, rx_cell, rx_fold, rx_lay]); (with_reducible first | apply Tot.of (qaa rfl) | (apply Tot.lss_t; omega))))
      ((try conv => arg 2; simp (disch := first | omega | assumption) only []); refine Tot.ret ?_)
      refine ⟨n, rfl, ?_, ?_⟩ <;> rw [hsz] at * <;> omega
theorem s43 : ∀ (r : Rx) (hr : r.Ok) (left : Int) (h0 : 0 ≤ left) (h1 : left ≤ 1000000) (A : St), Tot (fewOut left r.size A) (f43 mL (Run Tryd.prog rxA) (Dcall Tryd.prog rxA) (encRx r) (.int .i64 left) A) := by
  refine Rx.ind ?_
  intro r ih hr left h0 h1 A
  have hl := hr.len
  unfold f43
  (repeat' first | (with_reducible first | apply Tot.of (st_mp rfl) | apply Tot.of (st_it rfl)) | ((conv => arg 2; arg 1; simp (disch := first | omega | assumption) only [binO_sub, qam, qah, ofCells0, ofCellsS, Nat.zero_add, qaf, len_encL, ld_sh0, ldc0, List.length_map, rx_box]); (with_reducible first | apply Tot.of (qaa rfl))))
  have := s43_loop A r hr (fun k hk m h1 h2 A => ih k hk (hr.kid hk) m h1 h2 A) r.ks 0 (left - 1) [.cells [.int .i64 r.op, .str r.nm, encL 3 (r.ks.map encRx)]] rfl (by omega) (by omega)
  conv => arg 2; simp (disch := first | omega | assumption) only [qaf]
  refine Tot.mono this fun y hy => ?_
  obtain ⟨N, rfl, h5, h6⟩ := hy
  have e1 := Rx.size_eq r
  exact ⟨N, rfl, by omega, by omega⟩
/-! measure -/
def measOut (most deep : Int) (size depth : Int) (A : St) (x : Res × St) : Prop :=
  x = (.ret (if size ≤ most ∧ depth ≤ deep then .tup [.int .i64 size, .int .i64 depth, .bool true] else .tup [.int .i64 0, .int .i64 0, .bool false]), A)
theorem s42_loop (A : St) (r : Rx) (hr : r.Ok) (most deep : Int) (hm : 1 ≤ most) (hm2 : most ≤ 1000000) (hd1 : 1 ≤ deep) (hd2 : deep ≤ 1000000)
    (hk : ∀ k, k ∈ r.ks → ∀ m, m ≤ 1000000 → -1000000 ≤ m → ∀ A, Tot (measOut m (deep - 1) k.size k.depth A) (f42 mL (Run Tryd.prog rxA) (Dcall Tryd.prog rxA) (encRx k) (.int .i64 m) (.int .i64 (deep - 1)) A)) :
    ∀ (t : List Rx) (i : Nat) (n d : Int) (L : St), r.ks.drop i = t → 0 ≤ n → n ≤ most → 0 ≤ d → d ≤ deep - 1 →
    Tot (measOut most deep (n + (Rx.sizes t : Int)) (max d (Rx.depths t : Int) + 1) A) (iterK (f42_s0 mL (Run Tryd.prog rxA) (Dcall Tryd.prog rxA) A) (Env.mk (sp [(1, .int .i64 most), (0, .int .i64 deep), (6, .int .i64 n), (0, .int .i64 d), (12, encL 3 (r.ks.map encRx)), (0, .int .i64 (r.ks.length : Nat)), (0, .int .i64 (i : Nat))] 26) []) (A ++ L)) := by
  intro t
  have hl := hr.len
  induction t with
  | nil =>
    intro i n d L ht h1 h2 h3 h4
    have hl1 := drop_len ht
    refine Tot.iter ?_
    conv => arg 2; arg 1; unfold f42_s0
    (repeat' first | (with_reducible first | apply Tot.of (qai rfl) | apply Tot.of (st_map rfl) | apply Tot.of (qae rfl) | apply Tot.of (st_inr rfl) | apply Tot.of (qat rfl) | apply Tot.bql (b := false) | apply Tot.iff) | ((conv => arg 2; arg 1; simp (disch := first | omega | assumption) only [qad, Option.map_some, qar, qam, shut_int, qao, shut_tup, shutL_nil, shutL_cons, qak, qac, qas, qan, qap, qaq, qaf, qaj, qal, canon_tup, canonL_nil, canonL_cons, qab, qag, List.take_left']); (with_reducible first | apply Tot.of (qaa rfl) | (apply Tot.lss_f; omega))))
    ((try conv => arg 2; simp (disch := first | omega | assumption) only []); refine Tot.ret ?_)
    unfold measOut
    have e1 : max d ((Rx.depths ([] : List Rx) : Nat) : Int) = d := by simp only [Rx.depths]; omega
    have e2 : n + ((Rx.sizes ([] : List Rx) : Nat) : Int) = n := by simp only [Rx.sizes]; omega
    rw [e1, e2, if_pos (by omega)]
  | cons k t ih =>
    intro i n d L ht h1 h2 h3 h4
    have hl1 := drop_lt ht
    have hx := idx_drop (f := encRx) ht 3 true .i64
    have hsz : Rx.sizes (k :: t) = k.size + Rx.sizes t := rfl
    have hdp : Rx.depths (k :: t) = max k.depth (Rx.depths t) := rfl
    have hsp := Rx.size_pos k
    refine Tot.iter ?_
    conv => arg 2; arg 1; unfold f42_s0
    have hkk := hk k (drop_mem ht) (most - n) (by omega) (by omega)
    (repeat' first | (with_reducible first | apply Tot.of (qai rfl) | apply Tot.of (st_mp rfl) | apply Tot.of (qae rfl) | apply Tot.bql (b := true) | apply Tot.ift) | ((conv => arg 2; arg 1; simp (disch := first | omega | assumption) only [binO_sub, qam, load_peek, alloc_eq, ofA3, List.length_append, qan, qap, qaq, mp_some, qaf, app_one, ld_sh, ld_sh0, ldc0, sto_sh, sto_sh0, stoc0, hx, rx_cell, rx_fold, rx_lay]); (with_reducible first | apply Tot.of (qaa rfl) | (apply Tot.lss_t; omega))))
    conv => arg 2; arg 1; simp (disch := first | omega | assumption) only [qaj, rx_canon, r42]
    refine Tot.bn (hkk _) fun x hx => ?_
    unfold measOut at hx
    by_cases hc : (k.size : Int) ≤ most - n ∧ (k.depth : Int) ≤ deep - 1
    · rw [if_pos hc] at hx
      subst hx
      have := ih (i + 1) (n + k.size) (max d k.depth) L (drop_succ ht) (by omega) (by omega) (by omega) (by omega)
      (repeat' first | (with_reducible first | apply Tot.of (qaa rfl) | apply Tot.of (qai rfl) | apply Tot.of (qae rfl) | apply Tot.of (st_bnelim rfl) | apply Tot.of (st_bnguard rfl) | apply Tot.of (st_ret rfl) | apply Tot.of (st_inl rfl) | apply Tot.of (st_bngk rfl) | apply Tot.bql (b := false) | apply Tot.iff) | ((conv => arg 2; arg 1; simp (disch := first | omega | assumption) only [qar, qam, un_not, Bool.not_true, qan, qap, qaq, qaf, ext0, extS, Kept_app2, minmax_t]); (with_reducible first | apply Tot.of (qaa rfl) | apply Tot.of (st_guard rfl))))
      conv => arg 2; simp (disch := first | omega | assumption) only [shut_int, List.map_nil, List.length_append, qan, qap, qaq, take_app2, rxs_shut]
      refine Tot.mono this fun y hy => ?_
      unfold measOut at hy ⊢
      rw [hy, hsz, hdp]
      have e1 : n + ((k.size + Rx.sizes t : Nat) : Int) = n + k.size + (Rx.sizes t : Int) := by omega
      have e2 : max d ((max k.depth (Rx.depths t) : Nat) : Int) = max (max d (k.depth : Int)) (Rx.depths t : Int) := by omega
      rw [e1, e2]
    · rw [if_neg hc] at hx
      subst hx
      (repeat' first | (with_reducible first | apply Tot.of (qai rfl) | apply Tot.of (st_map rfl) | apply Tot.of (qae rfl) | apply Tot.of (st_bnelim rfl) | apply Tot.of (st_ret rfl) | apply Tot.of (st_inr rfl) | apply Tot.of (qat rfl) | apply Tot.bql (b := true) | apply Tot.ift) | ((conv => arg 2; arg 1; simp (disch := first | omega | assumption) only [qad, Option.map_some, shut_int, qao, shut_tup, shutL_nil, shutL_cons, qak, qac, qas, un_not, Bool.not_false, qaf, qaj, qal, canon_tup, canonL_nil, canonL_cons, qab, qag, List.take_left', ext0, extS]); (with_reducible first | apply Tot.of (qaa rfl))))
      ((try conv => arg 2; simp (disch := first | omega | assumption) only []); refine Tot.ret ?_)
      unfold measOut
      rw [if_neg (by rw [hsz, hdp]; omega)]
theorem s42 : ∀ (r : Rx) (hr : r.Ok) (deep most : Int) (hd : deep ≤ 1000000) (hd0 : -1000000 ≤ deep) (hm0 : -1000000 ≤ most) (hm : most ≤ 1000000) (A : St), Tot (measOut most deep r.size r.depth A) (f42 mL (Run Tryd.prog rxA) (Dcall Tryd.prog rxA) (encRx r) (.int .i64 most) (.int .i64 deep) A) := by
  refine Rx.ind ?_
  intro r ih hr deep most hd hd0 hm0 hm A
  have hp := Rx.depth_pos r
  have hp2 := Rx.size_pos r
  have hl := hr.len
  unfold f42
  (repeat' first | (with_reducible first | apply Tot.of (qaa rfl) | apply Tot.of (st_mp rfl) | apply Tot.of (qae rfl) | apply Tot.of (st_leave rfl) | apply Tot.of (st_it rfl) | apply Tot.gbl (b := true) | apply Tot.gbl (b := false) | apply Tot.bql (b := true) | apply Tot.bql (b := false) | apply Tot.ift | apply Tot.iff | apply Tot.iftf | apply Tot.ifff) | ((conv => arg 2; arg 1; simp (disch := first | omega | assumption) only [ifb_true, ifb_false, qah, ofCells0, ofCellsS, Nat.zero_add, qaf, len_encL, ld_sh0, ldc0, List.length_map, rx_box]); (with_reducible first | apply Tot.of (qaa rfl) | apply Tot.bql (b := true) | apply Tot.bql (b := false) | (apply Tot.lss; all_goals intro hsp))))
  · ((try conv => arg 2; simp (disch := first | omega | assumption) only [qad, shut_int, qao, shut_tup, shutL_nil, shutL_cons, qak, qac, qaf, qaj, qal, canon_tup, canonL_nil, canonL_cons, qab, qag, List.take_left']); refine Tot.ret ?_)
    unfold measOut
    rw [if_neg (by omega)]
  · ((try conv => arg 2; simp (disch := first | omega | assumption) only [qad, shut_int, qao, shut_tup, shutL_nil, shutL_cons, qak, qac, qaf, qaj, qal, canon_tup, canonL_nil, canonL_cons, qab, qag, List.take_left']); refine Tot.ret ?_)
    unfold measOut
    rw [if_neg (by omega)]
  · have := s42_loop A r hr most deep (by omega) hm (by omega) hd (fun k hk m h1 h2 A => ih k hk (hr.kid hk) (deep - 1) m (by omega) (by omega) h2 h1 A) r.ks 0 1 0 [.cells [.int .i64 r.op, .str r.nm, encL 3 (r.ks.map encRx)]] rfl (by omega) (by omega) (by omega) (by omega)
    conv => arg 2; simp (disch := first | omega | assumption) only [qaf]
    refine Tot.mono this fun y hy => ?_
    unfold measOut at hy ⊢
    rw [hy, Rx.size_eq, Rx.depth_eq]
    have e1 : ((Rx.sizes r.ks + 1 : Nat) : Int) = 1 + (Rx.sizes r.ks : Int) := by omega
    have e2 : ((Rx.depths r.ks + 1 : Nat) : Int) = max 0 (Rx.depths r.ks : Int) + 1 := by omega
    rw [e1, e2]
end Go.Vm.Rx

/- Which expressions may be: both texts' answers. -/
namespace Go.Vm.Rx
open Go Go.Proofs P
set_option linter.unusedVariables false
set_option linter.unusedSimpArgs false
set_option maxRecDepth 10000
set_option maxHeartbeats 2000000
/-- is a kid not right, or of its node's kind? -/
def badKid (op : Int) (k : Rx) : Bool := (decide (op = 4) || decide (op = 5)) && decide (k.op = op) || !k.right
theorem s65 (r k : Rx) (j : Nat) (B : St) (hj : j < B.length) (hB : B[j]? = some (.cells [.int .i64 r.op, .str r.nm, encL 3 (r.ks.map encRx)]))
    (hk : ∀ A, f44 mL (Run Tryd.prog rxA) (Dcall Tryd.prog rxA) (encRx k) A = some (.ret (.bool k.right), A)) : f65 mL (Run Tryd.prog rxA) (Dcall Tryd.prog rxA) (encRx k) (.ref j 0) B = some (.ret (.bool (badKid r.op k)), B) := by
  have hld : ∀ L, loadO false 1 (.ref j 0) (B ++ L) = some (.int .i64 r.op) := fun L => by
    rw [ld_old hj, load_ref hB]; rfl
  unfold f65
  refine Tot.eq ?_
  (repeat' first | (with_reducible first | apply Tot.of (qaa rfl) | apply Tot.of (st_mp rfl) | apply Tot.of (qae rfl) | apply Tot.of (st_ret rfl) | apply Tot.of (st_leave rfl) | apply Tot.gbl (b := true) | apply Tot.gbl (b := false) | apply Tot.bql (b := true) | apply Tot.bql (b := false) | apply Tot.iftt | apply Tot.ifft | apply Tot.iftf | apply Tot.ifff | (apply Tot.eql; all_goals intro hsp)) | ((conv => arg 2; arg 1; simp (disch := first | omega | assumption) only [ifb_true, ifb_false, qah, ofCells0, Nat.add_zero, ofA3, un_not, qaf, ld_sh0, ldc0, rx_box, hld, rx_fold, rx_canon, r44, hk]); (with_reducible first | apply Tot.of (qaa rfl) | apply Tot.gbl (b := true) | apply Tot.gbl (b := false) | apply Tot.bql (b := true) | apply Tot.bql (b := false) | (apply Tot.eql; all_goals intro hsp))))
  all_goals (((try conv => arg 2; simp (disch := first | omega | assumption) only [ifb_true, ifb_false, qad, qao, qak, qac, qal, qab, qag, List.take_left']); refine Tot.ret ?_); unfold badKid; by_cases h1 : r.op = 4 <;> by_cases h2 : r.op = 5 <;> by_cases h3 : k.op = r.op <;> first | (exfalso; omega) | simp_all)
theorem s86_loop (r : Rx) (hr : r.Ok) (j : Nat) (B : St) (hj : j < B.length) (hB : B[j]? = some (.cells [.int .i64 r.op, .str r.nm, encL 3 (r.ks.map encRx)]))
    (hk : ∀ k, k ∈ r.ks → ∀ A, f44 mL (Run Tryd.prog rxA) (Dcall Tryd.prog rxA) (encRx k) A = some (.ret (.bool k.right), A)) : ∀ (t : List Rx) (i : Nat), r.ks.drop i = t →
    iterK (f86_s0 mL (Run Tryd.prog rxA) (Dcall Tryd.prog rxA) B) (Env.mk (sp [(0, encL 3 (r.ks.map encRx)), (0, .fn (.func 65) [] [.ref j 0]), (5, .int .i64 (r.ks.length : Nat)), (0, .int .i64 (i : Nat))] 10) []) B =
      some (.ret (.int .i64 (match t.findIdx? (badKid r.op) with | some q => ((i + q : Nat) : Int) | none => -1)), B) := by
  intro t
  have hl := hr.len
  have hshf : (D.fn (.func 65) [] [.ref j 0]).shut B.length = .fn (.func 65) [] [.ref j 0] := by
    simp only [D.shut, D.shutL, hj, if_true]
  induction t with
  | nil =>
    intro i ht
    have h1 := drop_len ht
    refine Tot.eq (Tot.iter ?_)
    conv => arg 2; arg 1; unfold f86_s0
    (repeat' first | (with_reducible first | apply Tot.of (qai rfl) | apply Tot.of (st_map rfl) | apply Tot.of (qae rfl) | apply Tot.of (st_inr rfl) | apply Tot.of (qat rfl) | apply Tot.bql (b := false) | apply Tot.iff) | ((conv => arg 2; arg 1; simp (disch := first | omega | assumption) only [qad, Option.map_some, shut_int, Kept_refl, qac, qas, List.take_length, qan, qap, qaq, qaf, qaj, qab, qag]); (with_reducible first | apply Tot.of (qaa rfl) | (apply Tot.lss_f; omega))))
    ((try conv => arg 2; simp (disch := first | omega | assumption) only []); refine Tot.ret ?_)
    rfl
  | cons k t ih =>
    intro i ht
    have h1 := drop_lt ht
    have hx := idx_drop (f := encRx) ht 3 true .i64
    have hkk := s65 r k j B hj hB (hk k (drop_mem ht))
    have hcl : applyD (Run Tryd.prog rxA) (.fn (.func 65) [] [.ref j 0]) [encRx k] B = some (.ret (.bool (badKid r.op k)), B) := by
      rw [app_fn]
      show Run Tryd.prog rxA 65 [encRx k, .ref j 0] B = _
      rw [r65, rx_canon]
      exact hkk
    refine Tot.eq (Tot.iter ?_)
    conv => arg 2; arg 1; unfold f86_s0
    (repeat' first | (with_reducible first | apply Tot.of (qaa rfl) | apply Tot.of (qai rfl) | apply Tot.of (st_map rfl) | apply Tot.of (st_mp rfl) | apply Tot.of (qae rfl) | apply Tot.of (st_bnelim rfl) | apply Tot.of (st_bnguard rfl) | apply Tot.of (st_ret rfl) | apply Tot.of (st_inl rfl) | apply Tot.of (st_inr rfl) | apply Tot.of (st_bngk rfl) | apply Tot.of (qat rfl) | apply Tot.bql (b := true) | apply Tot.ift | apply Tot.iff | (apply Tot.bq; all_goals intro hsp)) | ((conv => arg 2; arg 1; simp (disch := first | omega | assumption) only [qad, Option.map_some, qar, qam, shut_int, Kept_refl, qac, qas, load_peek, List.take_length, ofA3, qan, qap, qaq, mp_some, qaf, qaj, qab, qag, hx, rx_cell, rx_fold, hcl]); (with_reducible first | apply Tot.of (qaa rfl) | apply Tot.of (st_guard rfl) | (apply Tot.lss_t; omega))))
    · ((try conv => arg 2; simp (disch := first | omega | assumption) only []); refine Tot.ret ?_)
      simp only [List.findIdx?_cons, *, if_true]
      simp
    · have := ih (i + 1) (drop_succ ht)
      conv => arg 2; simp (disch := first | omega | assumption) only [shut_int, List.take_length, List.map_nil, qan, qap, qaq, rxs_shut, hshf]
      refine Tot.of_eq ?_
      simp only [List.findIdx?_cons, *, if_false, Bool.false_eq_true]
      cases hf : t.findIdx? (badKid r.op) with
      | none => rw [hf] at this; exact this
      | some q =>
        rw [hf] at this
        have e : ((i + 1 + q : Nat) : Int) = ((i + (q + 1) : Nat) : Int) := by omega
        simp only [Option.map_some]
        rw [← e]; exact this
theorem s64 (r : Rx) (hr : r.Ok) (j : Nat) (B : St) (hj : j < B.length) (hB : B[j]? = some (.cells [.int .i64 r.op, .str r.nm, encL 3 (r.ks.map encRx)]))
    (hk : ∀ k, k ∈ r.ks → ∀ A, f44 mL (Run Tryd.prog rxA) (Dcall Tryd.prog rxA) (encRx k) A = some (.ret (.bool k.right), A)) :
    f64 mL (Run Tryd.prog rxA) (Dcall Tryd.prog rxA) (encL 3 (r.ks.map encRx)) (.fn (.func 65) [] [.ref j 0]) B = some (.ret (.bool (r.ks.any (badKid r.op))), B) := by
  have hcf : (D.fn (.func 65) [] [.ref j 0]).canon = .fn (.func 65) [] [.ref j 0] := rfl
  have hi : f86 mL (Run Tryd.prog rxA) (Dcall Tryd.prog rxA) (encL 3 (r.ks.map encRx)) (.fn (.func 65) [] [.ref j 0]) B = some (.ret (.int .i64 (match r.ks.findIdx? (badKid r.op) with | some q => ((0 + q : Nat) : Int) | none => -1)), B) := by
    have := s86_loop r hr j B hj hB hk r.ks 0 rfl
    unfold f86
    refine Tot.eq ?_
    (repeat' first | (with_reducible first | apply Tot.of (st_it rfl)) | ((conv => arg 2; arg 1; simp (disch := first | omega | assumption) only [len_encL, List.length_map]); (with_reducible first | apply Tot.of (qaa rfl))))
    (refine Tot.of_eq ?_; (conv => lhs; simp (disch := first | omega | assumption) only [qaf]); exact this)
  have hany : r.ks.any (badKid r.op) = (r.ks.findIdx? (badKid r.op)).isSome := by rw [List.findIdx?_isSome]
  unfold f64
  rw [hany]
  refine Tot.eq ?_
  cases hf : r.ks.findIdx? (badKid r.op) with
  | none =>
    rw [hf] at hi
    simp only at hi
    (repeat' first | (with_reducible first | apply Tot.of (st_ret rfl) | apply Tot.of (st_leave rfl)) | ((conv => arg 2; arg 1; simp (disch := first | omega | assumption) only [qaf, rxs_canon, hcf, r86, hi]); (with_reducible first | apply Tot.of (qaa rfl) | (apply Tot.geq_f; omega))))
    ((try conv => arg 2; simp (disch := first | omega | assumption) only [qad, qao, Kept_refl, qac, List.take_length, qal, qab, qag]); refine Tot.ret ?_)
    rfl
  | some q =>
    rw [hf] at hi
    simp only at hi
    (repeat' first | (with_reducible first | apply Tot.of (st_ret rfl) | apply Tot.of (st_leave rfl)) | ((conv => arg 2; arg 1; simp (disch := first | omega | assumption) only [Nat.zero_add, qaf, rxs_canon, hcf, r86, hi]); (with_reducible first | apply Tot.of (qaa rfl) | (apply Tot.geq_t; omega))))
    ((try conv => arg 2; simp (disch := first | omega | assumption) only [qad, qao, Kept_refl, qac, List.take_length, qal, qab, qag]); refine Tot.ret ?_)
    rfl
theorem rights_any (op : Int) : ∀ (ks : List Rx), ks.any (badKid op) = !(Rx.rights ks && !((decide (op = 4) || decide (op = 5)) && hasOp op ks))
  | [] => by simp [Rx.rights, hasOp]
  | k :: ks => by
    have := rights_any op ks
    simp only [List.any_cons, this, Rx.rights, hasOp, badKid]
    have e : (k.op == op) = decide (k.op = op) := by rw [Bool.eq_iff_iff]; simp
    rw [e]
    generalize (decide (op = 4) || decide (op = 5)) = a
    generalize decide (k.op = op) = b
    generalize k.right = c
    generalize Rx.rights ks = d
    generalize (ks.any fun k => k.op == op) = f
    cases a <;> cases b <;> cases c <;> cases d <;> cases f <;> rfl
theorem s44 : ∀ (r : Rx) (hr : r.Ok) (A : St), f44 mL (Run Tryd.prog rxA) (Dcall Tryd.prog rxA) (encRx r) A = some (.ret (.bool r.right), A) := by
  refine Rx.ind ?_
  intro r ih hr A
  have hl := hr.len
  have hn := hr.nml
  have hcf : (D.fn (.func 65) [] [.ref A.length 0]).canon = .fn (.func 65) [] [.ref A.length 0] := rfl
  have hct := s64 r hr A.length (A ++ [.cells [.int .i64 r.op, .str r.nm, encL 3 (r.ks.map encRx)]]) (by simp) (by simp) (fun k hk A => ih k hk (hr.kid hk) A)
  unfold f44
  refine Tot.eq ?_
  (repeat' first | (with_reducible first | apply Tot.of (qaa rfl) | apply Tot.of (st_mp rfl) | apply Tot.of (qae rfl) | apply Tot.of (st_ret rfl) | apply Tot.of (st_leave rfl) | apply Tot.gbl (b := true) | apply Tot.gbl (b := false) | apply Tot.gbn | apply Tot.bql (b := true) | apply Tot.bql (b := false) | apply Tot.ift | apply Tot.iff | apply Tot.iftt | apply Tot.ifft | apply Tot.iftf | apply Tot.ifff | apply Tot.if_n | (apply Tot.sneq; all_goals intro hsp) | (apply Tot.gb_t; assumption) | (apply Tot.gb_f; assumption) | (apply Tot.bq_t; assumption) | (apply Tot.bq_f; assumption) | (apply Tot.gb; all_goals intro hsp)) | ((conv => arg 2; arg 1; simp (disch := first | omega | assumption) only [ifb_true, ifb_false, qah, ofCells0, ofCellsS, Nat.zero_add, Nat.add_zero, un_not, Bool.not_true, Bool.not_false, qaf, canon_str, len_encL, ld_sh0, ldc0, List.length_map, neq_tt, neq_tf, neq_ft, neq_ff, rx_box, r63, s63, rxs_canon, hcf, r64, hct]); (with_reducible first | apply Tot.of (qaa rfl) | apply Tot.gbl (b := true) | apply Tot.gbl (b := false) | apply Tot.bql (b := true) | apply Tot.bql (b := false) | apply Tot.gb_n | apply Tot.bq_n | (apply Tot.gtr; all_goals intro hsp) | (apply Tot.eql; all_goals intro hsp) | (apply Tot.neq; all_goals intro hsp))))
  all_goals (((try conv => arg 2; simp (disch := first | omega | assumption) only [qad, qao, qak, qac, qal, qab, qag, List.take_left', rights_any]); refine Tot.ret ?_); rw [Rx.right_eq, nodeOk_int])
  all_goals (simp (disch := first | omega | assumption) only [iT, iF, dT, dF, *, Bool.and_true, Bool.true_and, Bool.and_false, Bool.false_and, Bool.or_true, Bool.true_or, Bool.or_false, Bool.false_or, Bool.not_true, Bool.not_false, Bool.not_not])
  all_goals first
    | done
    | rfl
    | (cases Rx.rights r.ks <;> cases hasOp 4 r.ks <;> rfl)
    | (cases Rx.rights r.ks <;> cases hasOp 5 r.ks <;> rfl)
    | (simp; done)
end Go.Vm.Rx

/- Check and Size: both texts' answers. -/
namespace Go.Vm.Rx
open Go Go.Proofs P
set_option linter.unusedVariables false
set_option linter.unusedSimpArgs false
set_option maxRecDepth 10000
set_option maxHeartbeats 2000000
theorem s16 (r : Rx) (hr : r.Ok) (A : St) : f16 mL (Run Tryd.prog rxA) (Dcall Tryd.prog rxA) (encRx r) A = some (.ret (.int .i64 r.check), A) := by
  have h1 := fun A => s35 r hr 100001 1000 (by omega) (by omega) (by omega) (by omega) A
  have h2 := fun A => s36 r hr 100 (by omega) (by omega) A
  have h3 := fun A => s37 r hr A
  have hdl := Rx.depth_le r
  unfold f16
  refine Tot.eq ?_
  (repeat' first | (with_reducible first | apply Tot.of (st_mp rfl)) | ((conv => arg 2; arg 1; simp (disch := first | omega | assumption) only [ofA3, ld_sh0, ldc0, rx_box, rx_fold]); (with_reducible first | apply Tot.of (qaa rfl))))
  conv => arg 2; arg 1; simp (disch := first | omega | assumption) only [qaf, qaj, rx_canon, r35]
  refine Tot.bn (h1 _) fun x hx => ?_
  obtain ⟨n, d, rfl, hg, hb, _⟩ := hx
  (repeat' first | (with_reducible first | apply Tot.of (st_mp rfl) | apply Tot.of (st_ret rfl) | apply Tot.of (st_leave rfl) | apply Tot.bql (b := true) | apply Tot.bql (b := false) | apply Tot.ift | apply Tot.iff | apply Tot.if_n | apply Tot.bq_n | (apply Tot.bq_d; all_goals intro hsp) | (apply Tot.bq; all_goals intro hsp)) | ((conv => arg 2; arg 1; simp (disch := first | omega | assumption) only [ofA3, un_not, qaf, qaj, ld_sh0, ldc0, ext0, extS, rx_fold, rx_canon, r36, r37, h2, h3]); (with_reducible first | apply Tot.of (qaa rfl) | (apply Tot.gtr; all_goals intro hsp))))
  all_goals (((try conv => arg 2; simp (disch := first | omega | assumption) only [qad, shut_int, qak, qac, qaf, qaj, qab, qag, List.take_left']); refine Tot.ret ?_); unfold Rx.check)
  all_goals simp (disch := first | omega | assumption) only [iT, iF, *, if_true, if_false, Bool.false_eq_true]
theorem s24 (r : Rx) (hr : r.Ok) (A : St) : f24 mL (Run Tryd.prog rxA) (Dcall Tryd.prog rxA) (encRx r) A = some (.ret (.int .i64 r.check), A) := by
  have h1 := fun A => s43 r hr 1000 (by omega) (by omega) A
  have h2 := fun A => s42 r hr 100 1000 (by omega) (by omega) (by omega) (by omega) A
  have h3 := fun A => s44 r hr A
  have hdl := Rx.depth_le r
  unfold f24
  refine Tot.eq ?_
  (repeat' first | (with_reducible first | apply Tot.of (st_mp rfl)) | ((conv => arg 2; arg 1; simp (disch := first | omega | assumption) only [ofA3, ld_sh0, ldc0, rx_box, rx_fold]); (with_reducible first | apply Tot.of (qaa rfl))))
  conv => arg 2; arg 1; simp (disch := first | omega | assumption) only [qaf, qaj, rx_canon, r43]
  refine Tot.bn (h1 _) fun x hx => ?_
  obtain ⟨n, rfl, hg, hb⟩ := hx
  (repeat' first | (with_reducible first | apply Tot.of (st_mp rfl) | apply Tot.of (st_ret rfl) | apply Tot.of (st_leave rfl) | apply Tot.bql (b := true) | apply Tot.bql (b := false) | apply Tot.ift | apply Tot.iff) | ((conv => arg 2; arg 1; simp (disch := first | omega | assumption) only [ofA3, qaf, ld_sh0, ldc0, rx_fold]); (with_reducible first | apply Tot.of (qaa rfl) | (apply Tot.lss; all_goals intro hsp))))
  · ((try conv => arg 2; simp (disch := first | omega | assumption) only [qad, shut_int, qak, qac, qaf, qaj, qab, qag, List.take_left']); refine Tot.ret ?_)
    unfold Rx.check
    rw [if_pos (by omega)]
  · conv => arg 2; arg 1; simp (disch := first | omega | assumption) only [qaf, qaj, rx_canon, r42]
    refine Tot.bn (h2 _) fun x hx => ?_
    unfold measOut at hx
    by_cases hc : (r.size : Int) ≤ 1000 ∧ (r.depth : Int) ≤ 100
    · rw [if_pos hc] at hx
      subst hx
      (repeat' first | (with_reducible first | apply Tot.of (st_mp rfl) | apply Tot.of (st_ret rfl) | apply Tot.of (st_leave rfl) | apply Tot.bql (b := false) | apply Tot.ift | apply Tot.iff | apply Tot.if_n | apply Tot.bq_n | (apply Tot.bq; all_goals intro hsp)) | ((conv => arg 2; arg 1; simp (disch := first | omega | assumption) only [ofA3, un_not, Bool.not_true, ld_sh0, ldc0, ext0, extS, rx_fold, rx_canon, r44, h3]); (with_reducible first | apply Tot.of (qaa rfl))))
      all_goals (((try conv => arg 2; simp (disch := first | omega | assumption) only [qad, shut_int, qak, qac, qaf, qaj, qab, qag, List.take_left']); refine Tot.ret ?_); unfold Rx.check)
      all_goals simp (disch := first | omega | assumption) only [iT, iF, *, if_true, if_false, Bool.false_eq_true]
    · rw [if_neg hc] at hx
      subst hx
      (repeat' first | (with_reducible first | apply Tot.of (st_ret rfl) | apply Tot.of (st_leave rfl) | apply Tot.bql (b := true) | apply Tot.ift) | ((conv => arg 2; arg 1; simp (disch := first | omega | assumption) only [un_not, Bool.not_false, ext0, extS]); (with_reducible first | apply Tot.of (qaa rfl))))
      all_goals (((try conv => arg 2; simp (disch := first | omega | assumption) only [qad, shut_int, qak, qac, qaf, qaj, qab, qag, List.take_left']); refine Tot.ret ?_); unfold Rx.check)
      all_goals simp (disch := first | omega | assumption) only [iT, iF, *, if_true, if_false, Bool.false_eq_true]
end Go.Vm.Rx

/- The reference's reader of words: its small functions. -/
namespace Go.Vm.Rx
open Go Go.Proofs P
set_option linter.unusedVariables false
set_option linter.unusedSimpArgs false
set_option maxRecDepth 10000
set_option maxHeartbeats 2000000
/-- the reference's reader -/
def rdC (l : List Word) (i o b a : Int) : List D := [encL 3 (l.map encW), .int .i64 i, .int .i64 o, .int .i64 b, .int .i64 a]
theorem lay3 (k : IntKind) (x : Int) (s : Str) (o : Own) (n : Nat) (ds : List D) (a b c : D) : layCells true 3 0 [a, b, c] (.agg [.int k x, .str s, .sl o n ds]) = some [.int k x, .str s, .sl o n ds] := by
  simp [layCells, D.cellsT, D.agg?, allCells, D.cell?, splice]
end Go.Vm.Rx

/- Several expressions as one: the reference's Joined. -/
namespace Go.Vm.Rx
open Go Go.Proofs P
set_option linter.unusedVariables false
set_option linter.unusedSimpArgs false
set_option maxRecDepth 10000
set_option maxHeartbeats 2000000
/-- several as one, as the reference has it -/
def joinR (op : Int) (l : List Rx) : Rx :=
  match l with
  | [r] => r
  | l => match flat op l with
    | [r] => if op = 4 then r else .mk op [] [r]
    | ks => .mk op [] ks
def joinF (op : Int) (ks : List Rx) : Rx :=
  match ks with
    | [r] => if op = 4 then r else .mk op [] [r]
    | ks => .mk op [] ks
theorem joinF_eq {op : Int} {ks : List Rx} (h : ¬ (op = 4 ∧ (ks.length : Int) = 1)) : joinF op ks = .mk op [] ks := by
  unfold joinF
  split
  · rename_i r
    rw [if_neg (fun e => h ⟨e, rfl⟩)]
  · rfl
theorem joinF_one {op : Int} {ks : List Rx} (h1 : op = 4) (h2 : (ks.length : Int) = 1) : ∃ r, ks = [r] ∧ joinF op ks = r := by
  cases ks with
  | nil => simp at h2
  | cons r ks =>
    cases ks with
    | nil => exact ⟨r, rfl, by simp [joinF, h1]⟩
    | cons _ _ => simp at h2; omega
theorem encRx_mk (op : Int) (nm : Str) (ks : List Rx) : encRx (.mk op nm ks) = .agg [.int .i64 op, .str nm, encL 3 (ks.map encRx)] := encRx_eq _
theorem s19_loop (A : St) (op : Int) (l : List Rx) (hl : l.length ≤ 100000000) (hfl : (flat op l).length ≤ 100000000) : ∀ (t : List Rx) (i : Nat) (acc : List Rx) (b : Option Nat) (y r0 r1 r2 : D), l.drop i = t → acc ++ flat op t = flat op l → AccOk b 3 (acc.map encRx) →
    iterK (f19_s0 mL (Run Tryd.prog rxA) (Dcall Tryd.prog rxA) A) (Env.mk (sp [(0, .int .i64 op), (0, encL 3 (l.map encRx)), (2, .ref A.length 0), (0, .ref (A.length + 1) 0), (0, .int .i64 (i : Nat)), (18, y)] 33) [])
      (accA b (A ++ [.cells [r0, r1, r2], .cells [.int .i64 op, .str [], accD b (A.length + 2) 3 (acc.map encRx)]]) (acc.map encRx)) = some (.ret (encRx (joinF op (flat op l))), A) := by
  intro t
  induction t with
  | nil =>
    intro i acc b y r0 r1 r2 ht hacc hb
    have h1 := drop_len ht
    simp only [flat, List.append_nil] at hacc
    rw [← hacc] at hfl ⊢
    have hS := fun m => acc_shut (c := A.length + 2) (m := m) hb (plainRxs acc)
    refine Tot.eq (Tot.iter ?_)
    conv => arg 2; arg 1; unfold f19_s0
    have hln : ((acc.map encRx).length : Int) = (acc.length : Int) := by simp
    have hlx : ∀ x b' c d, layCells true 3 0 [x, c, d] (D.agg [.int .i64 op, .str [], accD b' (A.length + 2) 3 (acc.map encRx)]) = some [.int .i64 op, .str [], accD b' (A.length + 2) 3 (acc.map encRx)] := fun x b' c d => by
      cases b' <;> simp [layCells, D.cellsT, D.agg?, allCells, D.cell?, splice, accD]
    by_cases hc : op = 4 ∧ (acc.length : Int) = 1
    · obtain ⟨r, rfl, hj⟩ := joinF_one hc.1 hc.2
      have hx := idx_acc1 (c := A.length + 2) (g := true) (k := .i64) (d := encRx r) hb
      have hl1 : ([r] : List Rx).length = 1 := rfl
      obtain ⟨h4, _⟩ := hc
      simp only [List.map_cons, List.map_nil] at hlx hS
      (repeat' first | (with_reducible first | apply Tot.of (qai rfl) | apply Tot.of (st_map rfl) | apply Tot.of (st_mp rfl) | apply Tot.of (qae rfl) | apply Tot.of (st_inr rfl) | apply Tot.of (qat rfl) | apply Tot.gbl (b := true) | apply Tot.bql (b := true) | apply Tot.bql (b := false) | apply Tot.ift | apply Tot.iff | apply Tot.iftt) | ((conv => arg 2; arg 1; simp (disch := first | omega | assumption) only [ifb_true, qad, Option.map_some, Option.bind_some, qac, qas, qah, load_peek, ofCells0, ofCellsS, List.map_nil, Nat.zero_add, ofA3, packD, List.length_cons, List.length_nil, qan, qap, qaq, mp_some, qaf, qab, qag, len_encL, len_acc, List.length_map, acc_ld0, acc_ld1, acc_sto0, accL_Kept, accL_take, hx, rx_cell, rx_lay, rx_fold, List.map_cons]); (with_reducible first | apply Tot.of (qaa rfl) | apply Tot.bql (b := true) | (apply Tot.lss_f; omega) | (apply Tot.eql_t; omega))))
      ((try conv => arg 2; simp (disch := first | omega | assumption) only [rx_shut, rx_canon]); refine Tot.ret ?_)
      rw [hj]
    · rw [joinF_eq hc]
      (repeat' first | (with_reducible first | apply Tot.of (qaa rfl) | apply Tot.of (qai rfl) | apply Tot.of (st_map rfl) | apply Tot.of (st_mp rfl) | apply Tot.of (qae rfl) | apply Tot.of (st_inr rfl) | apply Tot.of (qat rfl) | apply Tot.gbl (b := true) | apply Tot.gbl (b := false) | apply Tot.bql (b := true) | apply Tot.bql (b := false) | apply Tot.iff | apply Tot.iftt | apply Tot.ifft) | ((conv => arg 2; arg 1; simp (disch := first | omega | assumption) only [ifb_true, ifb_false, qad, Option.map_some, Option.bind_some, shut_int, shut_strD, shut_agg, shutL_nil, shutL_cons, qac, qas, qah, ofCells0, ofCellsS, Nat.zero_add, ofA3, packD, qan, qap, qaq, mp_some, qaf, qaj, canon_str, canon_agg, canonL_nil, canonL_cons, qab, qag, len_encL, len_acc, List.length_map, acc_ld0, acc_ld1, acc_sto0, accL_Kept, accL_take, hS, hlx]); (with_reducible first | apply Tot.of (qaa rfl) | apply Tot.bql (b := false) | (apply Tot.lss_f; omega) | (apply Tot.eql_f; omega) | (apply Tot.eql; all_goals intro hsp))))
      all_goals (((try conv => arg 2; simp (disch := first | omega | assumption) only []); refine Tot.ret ?_); rw [encRx_mk])
  | cons x t ih =>
    intro i acc b y r0 r1 r2 ht hacc hb
    have h1 := drop_lt ht
    have hx := idx_drop (f := encRx) ht 3 true .i64
    have hlen := congrArg List.length hacc
    simp only [List.length_append] at hlen
    refine Tot.eq (Tot.iter ?_)
    conv => arg 2; arg 1; unfold f19_s0
    by_cases hop : x.op = op
    · have hf : flat op (x :: t) = x.ks ++ flat op t := by simp [flat, hop]
      rw [hf, ← List.append_assoc] at hacc
      have hap := fun s0 s1 => appL_2 (A := A) (w := 48) (s0 := s0) (s1 := s1) (new := x.ks.map encRx) hb (by rw [hf] at hlen; simp at hlen ⊢; omega) (by omega)
      simp only [← List.map_append] at hap
      (repeat' first | (with_reducible first | apply Tot.of (qaa rfl) | apply Tot.of (qai rfl) | apply Tot.of (st_mp rfl) | apply Tot.of (qae rfl) | apply Tot.of (st_bnsum rfl) | apply Tot.of (st_bnguard rfl) | apply Tot.of (st_inl rfl) | apply Tot.of (st_guard rfl) | apply Tot.of (st_bngs rfl) | apply Tot.bql (b := true) | apply Tot.ift) | ((conv => arg 2; arg 1; simp (disch := first | omega | assumption) only [Option.map_some, qar, qam, qah, fieldAddr_peek, load_peek, ofCells0, ofCellsS, List.drop_zero, List.drop_succ_cons, Nat.zero_add, lay_s, qan, qap, qaq, mp_some, qaf, len_encL, lay_acc, List.length_map, acc_ld1, acc_sto1, hx, rx_cell, hap]); (with_reducible first | apply Tot.of (qaa rfl) | (apply Tot.lss_t; omega) | (apply Tot.eql_t; omega))))
      (refine Tot.of_eq ?_; (conv => lhs; simp (disch := first | omega | assumption) only [qan, qap, qaq]); have := ih (i + 1) (acc ++ x.ks) (accNext b 3 (x.ks.map encRx)) (.int .i64 x.op) r0 r1 r2 (drop_succ ht) hacc (by rw [List.map_append]; exact hb.next _); exact this)
    · have hf : flat op (x :: t) = [x] ++ flat op t := by simp [flat, hop]
      rw [hf, ← List.append_assoc] at hacc
      have hap := fun s0 s1 => app1_2 (A := A) (w := 48) (s0 := s0) (s1 := s1) (d := encRx x) hb (by rw [hf] at hlen; simp at hlen ⊢; omega) (by omega)
      have hml : acc.map encRx ++ [encRx x] = (acc ++ [x]).map encRx := by simp
      simp only [hml] at hap
      have hsp3 : sliceParts 3 true 0 [(0, encRx x)] = some [encRx x] := sparts1 _ _ _ _ (rx_cell x) rfl
      (repeat' first | (with_reducible first | apply Tot.of (qaa rfl) | apply Tot.of (qai rfl) | apply Tot.of (st_map rfl) | apply Tot.of (st_mp rfl) | apply Tot.of (qae rfl) | apply Tot.of (st_bnsum rfl) | apply Tot.of (st_bnguard rfl) | apply Tot.of (st_inl rfl) | apply Tot.of (st_guard rfl) | apply Tot.of (st_bngs rfl) | apply Tot.bql (b := true) | apply Tot.bql (b := false) | apply Tot.ift | apply Tot.iff) | ((conv => arg 2; arg 1; simp (disch := first | omega | assumption) only [Option.map_some, qar, qam, qah, fieldAddr_peek, load_peek, ofCells0, ofCellsS, List.drop_zero, Nat.zero_add, lay_s, ofA3, qan, qap, qaq, mp_some, qaf, len_encL, lay_acc, List.length_map, acc_ld1, acc_sto1, hx, rx_cell, rx_fold, hap, hsp3]); (with_reducible first | apply Tot.of (qaa rfl) | (apply Tot.lss_t; omega) | (apply Tot.eql_f; omega))))
      (refine Tot.of_eq ?_; (conv => lhs; simp (disch := first | omega | assumption) only [qan, qap, qaq]); have := ih (i + 1) (acc ++ [x]) none (.int .i64 x.op) r0 r1 r2 (drop_succ ht) hacc (.own _ _); exact this)
theorem s19 (A : St) (op : Int) (l : List Rx) (hl : l.length ≤ 100000000) (hfl : (flat op l).length ≤ 100000000) : f19 mL (Run Tryd.prog rxA) (Dcall Tryd.prog rxA) (.int .i64 op) (encL 3 (l.map encRx)) A = some (.ret (encRx (joinR op l)), A) := by
  unfold f19
  refine Tot.eq ?_
  by_cases h1 : (l.length : Int) = 1
  · obtain ⟨r, rfl⟩ : ∃ r, l = [r] := by
      cases l with
      | nil => simp at h1
      | cons r l => cases l with
        | nil => exact ⟨r, rfl⟩
        | cons _ _ => simp at h1; omega
    have hl1 : ([r] : List Rx).length = 1 := rfl
    (repeat' first | (with_reducible first | apply Tot.of (qaa rfl) | apply Tot.of (st_bind rfl) | apply Tot.of (st_map rfl) | apply Tot.of (st_mp rfl) | apply Tot.of (st_leave rfl) | apply Tot.bql (b := true) | apply Tot.ift) | ((conv => arg 2; arg 1; simp (disch := first | omega | assumption) only [load_peek, List.map_nil, Nat.zero_add, alloc_eq, ofA3, List.length_cons, List.length_nil, mp_some, qaf, len_encL, ld_sh0, ldc0, sto_sh0, stoc0, idx_enc1, rx_cell, rx_lay, rx_fold, List.map_cons]); (with_reducible first | apply Tot.of (qaa rfl) | (apply Tot.eql_t; omega))))
    ((try conv => arg 2; simp (disch := first | omega | assumption) only [qad, qak, qac, packD, qab, qag, List.take_left', rx_shut, rx_canon]); refine Tot.ret ?_)
    rfl
  · have hj : joinR op l = joinF op (flat op l) := by
      unfold joinR joinF
      cases l with
      | nil => rfl
      | cons r l => cases l with
        | nil => simp at h1
        | cons _ _ => rfl
    have := s19_loop A op l hl hfl l 0 [] (some 0) (.tup []) (.int .i64 0) (.str []) (.sl .full 0 []) rfl (by simp) (.nil 3)
    rw [hj]
    (repeat' first | (with_reducible first | apply Tot.of (qaa rfl) | apply Tot.of (st_bind rfl) | apply Tot.of (st_map rfl) | apply Tot.of (st_mp rfl) | apply Tot.of (st_it rfl) | apply Tot.bql (b := false) | apply Tot.iff) | ((conv => arg 2; arg 1; simp (disch := first | omega | assumption) only [Nat.zero_add, alloc_eq, lay_int, List.length_append, List.length_cons, List.length_nil, mp_some, qaf, len_encL, app_one, app_nil', app_cons', sto_sh, stoc0, stocS, List.length_map, lay3]); (with_reducible first | apply Tot.of (qaa rfl) | (apply Tot.eql_f; omega))))
    (refine Tot.of_eq ?_; (conv => lhs; simp (disch := first | omega | assumption) only [qaf]); exact this)
end Go.Vm.Rx
