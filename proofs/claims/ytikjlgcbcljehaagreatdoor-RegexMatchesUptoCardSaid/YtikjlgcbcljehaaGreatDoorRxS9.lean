/- What the reference's tests of expressions come to. -/
import Derived.Test.YtikjlgcbcljehaaGreatDoorRxS8
set_option linter.all false
namespace Go.Vm.Rx
open Go Go.Proofs P
set_option linter.unusedVariables false
set_option linter.unusedSimpArgs false
set_option maxRecDepth 10000
set_option maxHeartbeats 1000000
mutual
def encRx : Rx → D | .mk op nm ks => .agg [.int .i64 op, .str nm, encL 3 (encRxs ks)]
def encRxs : List Rx → List D | [] => [] | r :: rs => encRx r :: encRxs rs
end
theorem encRxs_eq : ∀ l, encRxs l = l.map encRx
  | [] => rfl
  | r :: rs => by simp [encRxs, encRxs_eq rs]
theorem encRx_eq (r : Rx) : encRx r = .agg [.int .i64 r.op, .str r.nm, encL 3 (r.ks.map encRx)] := by
  cases r with
  | mk op nm ks => rw [encRx, encRxs_eq]; rfl
mutual
theorem plainRx : ∀ r, Plain (encRx r)
  | .mk op nm ks => by
    have h := encL_plain (plainRxs0 ks) 3
    refine ⟨fun n => ?_, ?_⟩
    · rw [encRx]; simp [h.shut]
    · rw [encRx]; simp [canon_agg, canonL_cons, canonL_nil, h.canon]
theorem plainRxs0 : ∀ l, PlainL (encRxs l)
  | [] => ⟨fun _ => rfl, rfl⟩
  | r :: rs => ⟨fun n => by rw [encRxs, shutL_cons, (plainRx r).shut, (plainRxs0 rs).shut], by rw [encRxs, canonL_cons, (plainRx r).canon, (plainRxs0 rs).canon]⟩
end
theorem plainRxs (l : List Rx) : PlainL (l.map encRx) := PlainL.map plainRx l
theorem rx_fold (r : Rx) : D.agg [.int .i64 r.op, .str r.nm, encL 3 (r.ks.map encRx)] = encRx r := (encRx_eq r).symm
theorem rx_cell (r : Rx) : (encRx r).cellsT true = some [.int .i64 r.op, .str r.nm, encL 3 (r.ks.map encRx)] := by rw [encRx_eq]; rfl
theorem rx_box (r : Rx) (A : St) : boxO true (encRx r) A = some (.ref A.length 0, A ++ [.cells [.int .i64 r.op, .str r.nm, encL 3 (r.ks.map encRx)]]) := by rw [encRx_eq]; rfl
theorem rx_canon (r : Rx) : (encRx r).canon = encRx r := (plainRx r).canon
theorem rxs_canon (l : List Rx) (n : Nat) : (encL n (l.map encRx)).canon = encL n (l.map encRx) := (encL_plain (plainRxs l) n).canon
theorem rxs_shut (l : List Rx) (n m : Nat) : (encL n (l.map encRx)).shut m = encL n (l.map encRx) := (encL_plain (plainRxs l) n).shut m
theorem drop_mem {α : Type} {l t : List α} {i : Nat} {x : α} (h : l.drop i = x :: t) : x ∈ l := List.mem_of_mem_drop (i := i) (by rw [h]; simp)

theorem s64_loop (A : St) (op : Int) (l : List Rx) (hl : l.length ≤ 100000000) : ∀ (t : List Rx) (i : Nat), l.drop i = t →
    iterK (f64_s0 mL (Run Tryz.prog rxA) (Dcall Tryz.prog rxA) A) (Env.mk (sp [(0, encL 3 (l.map encRx)), (0, .int .i64 op), (3, .int .i64 (i : Nat))] 13) []) A = some (.ret (.bool (!hasOp op t)), A) := by
  intro t
  induction t with
  | nil =>
    intro i ht
    have h1 := drop_len ht
    refine Tot.eq (Tot.iter ?_)
    conv => arg 2; arg 1; unfold f64_s0
    (repeat' first | (with_reducible first | apply Tot.of (qag rfl) | apply Tot.of (qa0 rfl) | apply Tot.of (qac rfl) | apply Tot.of (st_inr rfl) | apply Tot.of (qas rfl) | apply Tot.bql (b := false) | apply Tot.iff) | ((conv => arg 2; arg 1; simp (disch := first | omega | assumption) only [qah, Option.map_some, qav, Kept_refl, qad, qaq, List.take_length, qai, qaj, qak, qat, qab, qal, qaz, List.length_map]); (with_reducible first | apply Tot.of (qaa rfl) | (apply Tot.lss_f; omega))))
    all_goals (((try conv => arg 2; simp (disch := first | omega | assumption) only []); refine Tot.ret ?_); rfl)
  | cons k t ih =>
    intro i ht
    have h1 := drop_lt ht
    have hx := idx_drop (f := encRx) ht 3 true .i64
    refine Tot.eq (Tot.iter ?_)
    conv => arg 2; arg 1; unfold f64_s0
    (repeat' first | (with_reducible first | apply Tot.of (qaa rfl) | apply Tot.of (qag rfl) | apply Tot.of (qa0 rfl) | apply Tot.of (qax rfl) | apply Tot.of (qac rfl) | apply Tot.of (qaw rfl) | apply Tot.of (qay rfl) | apply Tot.of (st_inr rfl) | apply Tot.of (st_bngk rfl) | apply Tot.of (qas rfl) | apply Tot.bql (b := true) | apply Tot.bql (b := false) | apply Tot.ift | apply Tot.iff) | ((conv => arg 2; arg 1; simp (disch := first | omega | assumption) only [qah, Option.map_some, qap, qan, qav, Kept_refl, qad, qaq, fieldAddr_peek, qau, qao, List.take_length, List.drop_zero, qai, qaj, qak, mp_some, qaf, qat, qab, qal, qaz, List.length_map, hx, rx_cell]); (with_reducible first | apply Tot.of (qaa rfl) | apply Tot.of (st_guard rfl) | (apply Tot.lss_t; omega) | (apply Tot.eql; all_goals intro hsp))))
    · ((try conv => arg 2; simp (disch := first | omega | assumption) only []); refine Tot.ret ?_)
      simp [hasOp, *]
    · have := ih (i + 1) (drop_succ ht)
      have e : hasOp op (k :: t) = hasOp op t := by simp [hasOp, *]
      conv => arg 2; simp (disch := first | omega | assumption) only [qa1, List.take_length, List.map_nil, qai, qak, rxs_shut]
      refine Tot.of_eq ?_
      rw [e]; exact this
theorem s64 (A : St) (op : Int) (l : List Rx) (hl : l.length ≤ 100000000) : f64 mL (Run Tryz.prog rxA) (Dcall Tryz.prog rxA) (encL 3 (l.map encRx)) (.int .i64 op) A = some (.ret (.bool (!hasOp op l)), A) := by
  unfold f64
  exact s64_loop A op l hl l 0 rfl
theorem nodeOk_int (op : Int) (nm : Str) (ks : List Rx) : nodeOk op nm ks =
    if op = 1 ∨ op = 2 then isName nm && decide ((ks.length : Int) = 0)
    else if op = 3 then decide (nm = []) && decide ((ks.length : Int) = 0)
    else if op = 4 then decide (nm = []) && !decide ((ks.length : Int) = 1) && !hasOp 4 ks
    else if op = 5 then decide (nm = []) && decide ((ks.length : Int) ≥ 2) && !hasOp 5 ks
    else if op = 6 ∨ op = 7 ∨ op = 8 then decide (nm = []) && decide ((ks.length : Int) = 1)
    else false := by
  have e0 : (ks.length == 0) = decide ((ks.length : Int) = 0) := by rw [Bool.eq_iff_iff]; simp
  have e1 : (ks.length == 1) = decide ((ks.length : Int) = 1) := by rw [Bool.eq_iff_iff]; simp; omega
  have e2 : (ks.length != 1) = !decide ((ks.length : Int) = 1) := by unfold bne; rw [e1]
  have e3 : decide (2 ≤ ks.length) = decide ((ks.length : Int) ≥ 2) := by rw [Bool.eq_iff_iff]; simp; omega
  have e4 : (nm == []) = decide (nm = []) := by rw [Bool.eq_iff_iff]; simp
  unfold nodeOk
  rw [e0, e1, e2, e3, e4]
theorem s47 (A : St) (r : Rx) (hr : r.Ok) : f47 mL (Run Tryz.prog rxA) (Dcall Tryz.prog rxA) (encRx r) A = some (.ret (.bool (nodeOk r.op r.nm r.ks)), A) := by
  have hl := hr.len
  have hn := hr.nml
  unfold f47
  refine Tot.eq ?_
  (repeat' first | (with_reducible first | apply Tot.of (qaa rfl) | apply Tot.of (qag rfl) | apply Tot.of (qax rfl) | apply Tot.of (qac rfl) | apply Tot.of (st_bnsum rfl) | apply Tot.of (qa3 rfl) | apply Tot.of (qay rfl) | apply Tot.of (st_leave rfl) | apply Tot.gbl (b := true) | apply Tot.gbl (b := false) | apply Tot.bql (b := true) | apply Tot.bql (b := false) | apply Tot.ift | apply Tot.iff | apply Tot.iftt | apply Tot.ifft | (apply Tot.seql; all_goals intro hsp) | (apply Tot.gb_t; assumption) | (apply Tot.gb_f; assumption) | (apply Tot.bq_t; assumption) | (apply Tot.bq_f; assumption) | (apply Tot.gb; all_goals intro hsp)) | ((conv => arg 2; arg 1; simp (disch := first | omega | assumption) only [qa2, ifb_false, Option.map_some, qaq, qae, qao, ofCellsS, Nat.zero_add, Nat.add_zero, qai, qaj, qak, qaf, qam, canon_str, qaz, ld_sh0, ldc0, List.length_map, rx_box, r63, s63, r64, s64, rxs_canon]); (with_reducible first | apply Tot.of (qaa rfl) | apply Tot.gbl (b := true) | apply Tot.gbl (b := false) | apply Tot.bql (b := true) | apply Tot.bql (b := false) | (apply Tot.geq; all_goals intro hsp) | (apply Tot.eql; all_goals intro hsp) | (apply Tot.neq; all_goals intro hsp))))
  all_goals (rw [nodeOk_int]; ((try conv => arg 2; simp (disch := first | omega | assumption) only [qah, qav, qar, qad, qat, qab, qal, List.take_left']); refine Tot.ret ?_); simp only [*, or_true, true_or, or_false, false_or, or_self, if_true, if_false, decide_true, decide_false, Bool.and_true, Bool.true_and, Bool.and_false, Bool.false_and, Bool.not_true, Bool.not_false, not_false_eq_true]; try simp)
/-! deeper -/
theorem s29_loop (A : St) (r : Rx) (hr : r.Ok) (most : Int) (hm : 1 ≤ most) (hm2 : most ≤ 1000000) (hk : ∀ k, k ∈ r.ks → ∀ A, f29 mL (Run Tryz.prog rxA) (Dcall Tryz.prog rxA) (encRx k) (.int .i64 (most - 1)) A = some (.ret (.bool (decide (most - 1 < (k.depth : Int)))), A)) :
    ∀ (t : List Rx) (i : Nat), r.ks.drop i = t →
    iterK (f29_s0 mL (Run Tryz.prog rxA) (Dcall Tryz.prog rxA) A) (Env.mk (sp [(1, .int .i64 most), (0, .ref A.length 0), (2, .int .i64 (i : Nat))] 17) []) (A ++ [.cells [.int .i64 r.op, .str r.nm, encL 3 (r.ks.map encRx)]]) = some (.ret (.bool (decide (most - 1 < (Rx.depths t : Int)))), A) := by
  intro t
  have hl := hr.len
  have hsh : (D.ref A.length 0).shut (A.length + 1) = .ref A.length 0 := shut_ref _ (by omega)
  induction t with
  | nil =>
    intro i ht
    have h1 := drop_len ht
    refine Tot.eq (Tot.iter ?_)
    conv => arg 2; arg 1; unfold f29_s0
    (repeat' first | (with_reducible first | apply Tot.of (qag rfl) | apply Tot.of (qa0 rfl) | apply Tot.of (qax rfl) | apply Tot.of (qac rfl) | apply Tot.of (st_inr rfl) | apply Tot.of (qas rfl) | apply Tot.bql (b := false) | apply Tot.iff) | ((conv => arg 2; arg 1; simp (disch := first | omega | assumption) only [qah, Option.map_some, qav, qar, qad, qaq, qae, qao, ofCellsS, Nat.zero_add, qai, qaj, qak, qat, qab, qal, qaz, ld_sh0, ldc0, List.take_left', List.length_map]); (with_reducible first | apply Tot.of (qaa rfl) | (apply Tot.lss_f; omega))))
    ((try conv => arg 2; simp (disch := first | omega | assumption) only []); refine Tot.ret ?_)
    have : ¬ most - 1 < 0 := by omega
    simp [Rx.depths, this]
  | cons k t ih =>
    intro i ht
    have h1 := drop_lt ht
    have hx := idx_drop (f := encRx) ht 3 true .i64
    have hkk := hk k (drop_mem ht)
    refine Tot.eq (Tot.iter ?_)
    conv => arg 2; arg 1; unfold f29_s0
    have hd : Rx.depths (k :: t) = max k.depth (Rx.depths t) := rfl
    (repeat' first | (with_reducible first | apply Tot.of (qaa rfl) | apply Tot.of (qag rfl) | apply Tot.of (qa0 rfl) | apply Tot.of (qax rfl) | apply Tot.of (qac rfl) | apply Tot.of (st_bnelim rfl) | apply Tot.of (qaw rfl) | apply Tot.of (qa3 rfl) | apply Tot.of (qay rfl) | apply Tot.of (st_inr rfl) | apply Tot.of (st_bngk rfl) | apply Tot.of (qas rfl) | apply Tot.bql (b := true) | apply Tot.ift | apply Tot.iff | (apply Tot.bq_d; all_goals intro hsp)) | ((conv => arg 2; arg 1; simp (disch := first | omega | assumption) only [qah, Option.map_some, qap, binO_sub, qan, qav, Kept_refl, qar, qad, qaq, qae, qau, qao, ofCellsS, Nat.zero_add, ofA3, qai, qaj, qak, mp_some, qaf, qam, qat, qab, qal, qaz, ld_sh0, ldc0, List.take_left', List.length_map, hx, rx_cell, rx_fold, rx_canon, r29, hkk]); (with_reducible first | apply Tot.of (qaa rfl) | apply Tot.of (st_guard rfl) | (apply Tot.lss_t; omega))))
    · ((try conv => arg 2; simp (disch := first | omega | assumption) only []); refine Tot.ret ?_)
      have : most - 1 < (Rx.depths (k :: t) : Int) := by rw [hd]; omega
      simp [this]
    · have := ih (i + 1) (drop_succ ht)
      have e : decide (most - 1 < (Rx.depths (k :: t) : Int)) = decide (most - 1 < (Rx.depths t : Int)) := by rw [hd, decide_eq_decide]; omega
      conv => arg 2; simp (disch := first | omega | assumption) only [qa1, List.map_nil, Nat.zero_add, List.length_append, List.length_cons, List.length_nil, qai, qaj, qak, take_n1, hsh]
      refine Tot.of_eq ?_
      rw [e]; exact this
theorem s29 : ∀ (r : Rx) (hr : r.Ok) (most : Int) (hm0 : 0 ≤ most) (hm : most ≤ 1000000) (A : St), f29 mL (Run Tryz.prog rxA) (Dcall Tryz.prog rxA) (encRx r) (.int .i64 most) A = some (.ret (.bool (decide (most < (r.depth : Int)))), A) := by
  refine Rx.ind ?_
  intro r ih hr most hm0 hm A
  have hp := Rx.depth_pos r
  unfold f29
  refine Tot.eq ?_
  (repeat' first | (with_reducible first | apply Tot.of (st_leave rfl) | apply Tot.of (st_it rfl) | apply Tot.bql (b := true) | apply Tot.bql (b := false) | apply Tot.ift | apply Tot.iff) | ((conv => arg 2; arg 1; simp (disch := first | omega | assumption) only [qaf, rx_box]); (with_reducible first | apply Tot.of (qaa rfl) | (apply Tot.leq; all_goals intro hsp))))
  · ((try conv => arg 2; simp (disch := first | omega | assumption) only [qah, qav, qar, qad, qat, qab, qal, List.take_left']); refine Tot.ret ?_)
    have : most < (r.depth : Int) := by omega
    simp [this]
  · have := s29_loop A r hr most (by omega) hm (fun k hk A => ih k hk (hr.kid hk) _ (by omega) (by omega) A) r.ks 0 rfl
    have e : decide (most < (r.depth : Int)) = decide (most - 1 < (Rx.depths r.ks : Int)) := by rw [Rx.depth_eq, decide_eq_decide]; omega
    (refine Tot.of_eq ?_; (conv => lhs; simp (disch := first | omega | assumption) only [qaf]); rw [e]; exact this)
/-! right -/
theorem s30_loop (A : St) (r : Rx) (hr : r.Ok) (hk : ∀ k, k ∈ r.ks → ∀ A, f30 mL (Run Tryz.prog rxA) (Dcall Tryz.prog rxA) (encRx k) A = some (.ret (.bool k.right), A)) :
    ∀ (t : List Rx) (i : Nat) (b : Bool), r.ks.drop i = t →
    iterK (f30_s0 mL (Run Tryz.prog rxA) (Dcall Tryz.prog rxA) A) (Env.mk (sp [(1, .ref A.length 0), (1, .bool b), (0, .int .i64 (i : Nat))] 19) []) (A ++ [.cells [.int .i64 r.op, .str r.nm, encL 3 (r.ks.map encRx)]]) = some (.ret (.bool (b && Rx.rights t)), A) := by
  intro t
  have hl := hr.len
  have hsh : (D.ref A.length 0).shut (A.length + 1) = .ref A.length 0 := shut_ref _ (by omega)
  induction t with
  | nil =>
    intro i b ht
    have h1 := drop_len ht
    refine Tot.eq (Tot.iter ?_)
    conv => arg 2; arg 1; unfold f30_s0
    (repeat' first | (with_reducible first | apply Tot.of (qag rfl) | apply Tot.of (qa0 rfl) | apply Tot.of (qax rfl) | apply Tot.of (qac rfl) | apply Tot.of (st_inr rfl) | apply Tot.of (qas rfl) | apply Tot.bql (b := false) | apply Tot.iff) | ((conv => arg 2; arg 1; simp (disch := first | omega | assumption) only [qah, Option.map_some, qav, qar, qad, qaq, qae, qao, ofCellsS, Nat.zero_add, qai, qaj, qak, qat, qab, qal, qaz, ld_sh0, ldc0, List.take_left', List.length_map]); (with_reducible first | apply Tot.of (qaa rfl) | (apply Tot.lss_f; omega))))
    ((try conv => arg 2; simp (disch := first | omega | assumption) only []); refine Tot.ret ?_)
    simp [Rx.rights]
  | cons k t ih =>
    intro i b ht
    have h1 := drop_lt ht
    have hx := idx_drop (f := encRx) ht 3 true .i64
    have hkk := hk k (drop_mem ht)
    refine Tot.eq (Tot.iter ?_)
    conv => arg 2; arg 1; unfold f30_s0
    cases b
    · (repeat' first | (with_reducible first | apply Tot.of (qaa rfl) | apply Tot.of (qag rfl) | apply Tot.of (qax rfl) | apply Tot.of (qac rfl) | apply Tot.of (st_bnelim rfl) | apply Tot.of (qaw rfl) | apply Tot.of (qa3 rfl) | apply Tot.of (qay rfl) | apply Tot.of (st_bngk rfl) | apply Tot.bql (b := true) | apply Tot.ift | apply Tot.ifft) | ((conv => arg 2; arg 1; simp (disch := first | omega | assumption) only [qap, qan, Kept_refl, qae, qao, ofCellsS, Nat.zero_add, qai, qaj, qak, qaf, qaz, ld_sh0, ldc0, List.length_map]); (with_reducible first | apply Tot.of (qaa rfl) | apply Tot.of (st_guard rfl) | apply Tot.gbl (b := false) | apply Tot.bql (b := false) | (apply Tot.lss_t; omega))))
      have := ih (i + 1) false (drop_succ ht)
      conv => arg 2; simp (disch := first | omega | assumption) only [ifb_false, qa1, qav, List.map_nil, Nat.zero_add, List.length_append, List.length_cons, List.length_nil, qai, qaj, take_n1, hsh]
      refine Tot.of_eq ?_
      simpa using this
    · (repeat' first | (with_reducible first | apply Tot.of (qaa rfl) | apply Tot.of (qag rfl) | apply Tot.of (qax rfl) | apply Tot.of (qac rfl) | apply Tot.of (st_bnelim rfl) | apply Tot.of (qaw rfl) | apply Tot.of (qa3 rfl) | apply Tot.of (qay rfl) | apply Tot.of (st_bngk rfl) | apply Tot.bql (b := true) | apply Tot.ift | apply Tot.iftt) | ((conv => arg 2; arg 1; simp (disch := first | omega | assumption) only [qap, qan, Kept_refl, qae, qau, qao, ofCellsS, Nat.zero_add, ofA3, qai, qaj, qak, mp_some, qaf, qaz, ld_sh0, ldc0, List.length_map, hx, rx_cell, rx_fold, rx_canon, r30, hkk]); (with_reducible first | apply Tot.of (qaa rfl) | apply Tot.of (st_guard rfl) | apply Tot.gbl (b := true) | apply Tot.bql (b := true) | (apply Tot.lss_t; omega))))
      have := ih (i + 1) k.right (drop_succ ht)
      conv => arg 2; simp (disch := first | omega | assumption) only [qa2, qa1, qav, List.map_nil, Nat.zero_add, List.length_append, List.length_cons, List.length_nil, qai, qaj, take_n1, hsh]
      refine Tot.of_eq ?_
      simpa [Rx.rights] using this
theorem s30 : ∀ (r : Rx) (hr : r.Ok) (A : St), f30 mL (Run Tryz.prog rxA) (Dcall Tryz.prog rxA) (encRx r) A = some (.ret (.bool r.right), A) := by
  refine Rx.ind ?_
  intro r ih hr A
  have hn := fun A => s47 A r hr
  unfold f30
  refine Tot.eq ?_
  (repeat' first | (with_reducible first | apply Tot.of (qax rfl) | apply Tot.of (qa3 rfl) | apply Tot.of (st_it rfl)) | ((conv => arg 2; arg 1; simp (disch := first | omega | assumption) only [ofA3, ld_sh0, ldc0, rx_box, rx_fold, rx_canon, r47, hn]); (with_reducible first | apply Tot.of (qaa rfl))))
  have := s30_loop A r hr (fun k hk A => ih k hk (hr.kid hk) A) r.ks 0 (nodeOk r.op r.nm r.ks) rfl
  (refine Tot.of_eq ?_; (conv => lhs; simp (disch := first | omega | assumption) only [qaf]); rw [Rx.right_eq]; exact this)
/-! sized -/
def sizedOut (most deep : Int) (size depth : Int) (A : St) (x : Res × St) : Prop :=
  ∃ n d : Int, x = (.ret (.tup [.int .i64 n, .int .i64 d]), A) ∧ (size ≤ most ∧ depth ≤ deep → n = size ∧ d = depth) ∧ (¬ (size ≤ most ∧ depth ≤ deep) → n = most + 1) ∧ 0 ≤ n ∧ 0 ≤ d ∧ d ≤ max deep 0
theorem s28_loop (A : St) (r : Rx) (hr : r.Ok) (most deep : Int) (hm : 0 ≤ most) (hm2 : most ≤ 1000000) (hd1 : 1 ≤ deep) (hd2 : deep ≤ 1000000)
    (hk : ∀ k, k ∈ r.ks → ∀ m, 0 ≤ m → m ≤ 1000000 → ∀ A, Tot (sizedOut m (deep - 1) k.size k.depth A) (f28 mL (Run Tryz.prog rxA) (Dcall Tryz.prog rxA) (encRx k) (.int .i64 m) (.int .i64 (deep - 1)) A)) :
    ∀ (t : List Rx) (i : Nat) (n d : Int), r.ks.drop i = t → 0 ≤ n → n ≤ most + 1 → 0 ≤ d → d ≤ deep - 1 →
    Tot (sizedOut most deep (n + (Rx.sizes t : Int)) (max d (Rx.depths t : Int) + 1) A) (iterK (f28_s0 mL (Run Tryz.prog rxA) (Dcall Tryz.prog rxA) A) (Env.mk (sp [(1, .int .i64 most), (0, .int .i64 deep), (0, .ref A.length 0), (4, .int .i64 n), (0, .int .i64 d), (0, .int .i64 (i : Nat))] 42) []) (A ++ [.cells [.int .i64 r.op, .str r.nm, encL 3 (r.ks.map encRx)]])) := by
  intro t
  have hl := hr.len
  have hsh : (D.ref A.length 0).shut (A.length + 1) = .ref A.length 0 := shut_ref _ (by omega)
  induction t with
  | nil =>
    intro i n d ht h1 h2 h3 h4
    have hl1 := drop_len ht
    refine Tot.iter ?_
    conv => arg 2; arg 1; unfold f28_s0
    (repeat' first | (with_reducible first | apply Tot.of (qaa rfl) | apply Tot.of (qag rfl) | apply Tot.of (qa0 rfl) | apply Tot.of (qax rfl) | apply Tot.of (qac rfl) | apply Tot.of (st_inr rfl) | apply Tot.of (qas rfl) | apply Tot.gbl (b := false) | apply Tot.bql (b := false) | apply Tot.iff | apply Tot.ifft) | ((conv => arg 2; arg 1; simp (disch := first | omega | assumption) only [ifb_false, qah, Option.map_some, qap, qan, qa1, shut_tup, shutL_nil, shutL_cons, qar, qad, qaq, qae, qao, ofCellsS, Nat.zero_add, qai, qaj, qak, qaf, qam, canon_tup, canonL_nil, canonL_cons, qab, qal, qaz, ld_sh0, ldc0, List.take_left', List.length_map]); (with_reducible first | apply Tot.of (qaa rfl) | apply Tot.bql (b := false) | (apply Tot.lss_f; omega))))
    ((try conv => arg 2; simp (disch := first | omega | assumption) only []); refine Tot.ret ?_)
    refine ⟨n, d + 1, rfl, ?_, ?_, ?_, ?_, ?_⟩ <;> (try simp only [Rx.sizes, Rx.depths]) <;> omega
  | cons k t ih =>
    intro i n d ht h1 h2 h3 h4
    have hl1 := drop_lt ht
    have hx := idx_drop (f := encRx) ht 3 true .i64
    have hsz : Rx.sizes (k :: t) = k.size + Rx.sizes t := rfl
    have hdp : Rx.depths (k :: t) = max k.depth (Rx.depths t) := rfl
    have hsp := Rx.size_pos k
    refine Tot.iter ?_
    conv => arg 2; arg 1; unfold f28_s0
    by_cases hn : n ≤ most
    · have hkk := hk k (drop_mem ht) (most - n) (by omega) (by omega)
      (repeat' first | (with_reducible first | apply Tot.of (qaa rfl) | apply Tot.of (qag rfl) | apply Tot.of (qax rfl) | apply Tot.of (qac rfl) | apply Tot.gbl (b := true) | apply Tot.bql (b := true) | apply Tot.ift | apply Tot.iftt) | ((conv => arg 2; arg 1; simp (disch := first | omega | assumption) only [qa2, binO_sub, qan, qae, qau, qao, ofCellsS, Nat.zero_add, ofA3, qai, qaj, qak, mp_some, qaf, qaz, ld_sh0, ldc0, List.length_map, hx, rx_cell, rx_fold]); (with_reducible first | apply Tot.of (qaa rfl) | apply Tot.bql (b := true) | (apply Tot.lss_t; omega) | (apply Tot.leq_t; omega))))
      conv => arg 2; arg 1; simp (disch := first | omega | assumption) only [qam, rx_canon, r28]
      refine Tot.bn (hkk _) fun x hx => ?_
      obtain ⟨m, e, rfl, hg, hb, hm0, he0, he1⟩ := hx
      have hmm : m ≤ most - n + 1 := by
        by_cases hc : (k.size : Int) ≤ most - n ∧ (k.depth : Int) ≤ deep - 1
        · have := (hg hc).1; omega
        · have := hb hc; omega
      (repeat' first | (with_reducible first | apply Tot.of (qaa rfl) | apply Tot.of (qag rfl) | apply Tot.of (qac rfl) | apply Tot.of (st_bnelim rfl) | apply Tot.of (st_bnsum rfl) | apply Tot.of (qaw rfl) | apply Tot.of (qa3 rfl) | apply Tot.of (qay rfl) | apply Tot.of (st_bngk rfl) | apply Tot.bql (b := true) | apply Tot.bql (b := false) | apply Tot.ift | apply Tot.iff) | ((conv => arg 2; arg 1; simp (disch := first | omega | assumption) only [qap, qan, Kept_refl, qai, qaj, qak, qaf, ext0, extS]); (with_reducible first | apply Tot.of (qaa rfl) | apply Tot.of (st_guard rfl) | (apply Tot.gtr; all_goals intro hsp))))
      · have := ih (i + 1) (n + m) e (drop_succ ht) (by omega) (by omega) (by omega) (by omega)
        conv => arg 2; simp (disch := first | omega | assumption) only [qa1, List.map_nil, Nat.zero_add, List.length_append, List.length_cons, List.length_nil, qai, qaj, qak, take_n1, hsh]
        refine Tot.mono this fun y hy => ?_
        obtain ⟨N, D, rfl, h5, h6, h7, h8, h9⟩ := hy
        refine ⟨N, D, rfl, ?_, ?_, h7, h8, h9⟩ <;> rw [hsz, hdp] <;> omega
      · have := ih (i + 1) (n + m) d (drop_succ ht) (by omega) (by omega) (by omega) (by omega)
        conv => arg 2; simp (disch := first | omega | assumption) only [qa1, List.map_nil, Nat.zero_add, List.length_append, List.length_cons, List.length_nil, qai, qaj, qak, take_n1, hsh]
        refine Tot.mono this fun y hy => ?_
        obtain ⟨N, D, rfl, h5, h6, h7, h8, h9⟩ := hy
        refine ⟨N, D, rfl, ?_, ?_, h7, h8, h9⟩ <;> rw [hsz, hdp] <;> omega
    · (repeat' first | (with_reducible first | apply Tot.of (qaa rfl) | apply Tot.of (qag rfl) | apply Tot.of (qa0 rfl) | apply Tot.of (qax rfl) | apply Tot.of (qac rfl) | apply Tot.of (st_inr rfl) | apply Tot.of (qas rfl) | apply Tot.gbl (b := true) | apply Tot.bql (b := true) | apply Tot.iff | apply Tot.iftt) | ((conv => arg 2; arg 1; simp (disch := first | omega | assumption) only [qa2, qah, Option.map_some, qap, qan, qa1, shut_tup, shutL_nil, shutL_cons, qar, qad, qaq, qae, qao, ofCellsS, Nat.zero_add, qai, qaj, qak, qaf, qam, canon_tup, canonL_nil, canonL_cons, qab, qal, qaz, ld_sh0, ldc0, List.take_left', List.length_map]); (with_reducible first | apply Tot.of (qaa rfl) | apply Tot.bql (b := false) | (apply Tot.lss_t; omega) | (apply Tot.leq_f; omega))))
      ((try conv => arg 2; simp (disch := first | omega | assumption) only []); refine Tot.ret ?_)
      refine ⟨n, d + 1, rfl, ?_, ?_, ?_, ?_, ?_⟩ <;> rw [hsz] at * <;> omega
theorem s28 : ∀ (r : Rx) (hr : r.Ok) (deep most : Int) (hd : deep ≤ 1000000) (hm0 : 0 ≤ most) (hm : most ≤ 1000000) (hd0 : 0 ≤ deep) (A : St), Tot (sizedOut most deep r.size r.depth A) (f28 mL (Run Tryz.prog rxA) (Dcall Tryz.prog rxA) (encRx r) (.int .i64 most) (.int .i64 deep) A) := by
  refine Rx.ind ?_
  intro r ih hr deep most hd hm0 hm hd0 A
  have hp := Rx.depth_pos r
  unfold f28
  (repeat' first | (with_reducible first | apply Tot.of (st_leave rfl) | apply Tot.of (st_it rfl) | apply Tot.bql (b := true) | apply Tot.bql (b := false) | apply Tot.ift | apply Tot.iff) | ((conv => arg 2; arg 1; simp (disch := first | omega | assumption) only [qap, qan, qaf, rx_box]); (with_reducible first | apply Tot.of (qaa rfl) | (apply Tot.leq; all_goals intro hsp))))
  · ((try conv => arg 2; simp (disch := first | omega | assumption) only [qah, qa1, shut_tup, shutL_nil, shutL_cons, qar, qad, qaf, qam, canon_tup, canonL_nil, canonL_cons, qab, qal, List.take_left']); refine Tot.ret ?_)
    exact ⟨most + 1, 0, rfl, by omega, by omega, by omega, by omega, by omega⟩
  · have := s28_loop A r hr most deep hm0 hm (by omega) hd (fun k hk m h1 h2 A => ih k hk (hr.kid hk) (deep - 1) m (by omega) h1 h2 (by omega) A) r.ks 0 1 0 rfl (by omega) (by omega) (by omega) (by omega)
    conv => arg 2; simp (disch := first | omega | assumption) only [qaf]
    refine Tot.mono this fun y hy => ?_
    obtain ⟨N, D, rfl, h5, h6, h7, h8, h9⟩ := hy
    have e1 := Rx.size_eq r
    have e2 := Rx.depth_eq r
    exact ⟨N, D, rfl, by omega, by omega, h7, h8, h9⟩
end Go.Vm.Rx
