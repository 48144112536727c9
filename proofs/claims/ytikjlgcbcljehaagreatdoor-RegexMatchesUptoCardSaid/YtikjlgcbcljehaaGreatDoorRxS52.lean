/- RxS51, RxS52, RxS50 in one text. -/
import Derived.Test.YtikjlgcbcljehaaGreatDoorRxS39
import Derived.Test.YtikjlgcbcljehaaGreatDoorVmTab
import Derived.Test.YtikjlgcbcljehaaGreatDoorRxN2
import Derived.Test.YtikjlgcbcljehaaGreatDoorRxS14
import Derived.Test.YtikjlgcbcljehaaGreatDoorRxS49
set_option linter.all false
/- Names: the program's text. -/
namespace Go.Vm.Rx
open Go Go.Proofs P
set_option linter.unusedVariables false
set_option linter.unusedSimpArgs false
set_option linter.unusedSectionVars false
set_option maxRecDepth 10000
set_option maxHeartbeats 4000000
theorem sort_run {S : St} {k : Nat} {xs : List Str} (h : TRow S k xs) (hb : xs.length ≤ 1000000) : Run Tryz.prog rxA 35 [.vsl k 0 1 xs.length] S = some (.ret (.tup []), S.set k (.cells ((sorted xs).map .str))) := by
  rw [Run_ext _ _ (by decide) rfl]
  exact onStrs_run h rfl (by omega)
theorem compact_run {S : St} {k : Nat} {xs : List Str} (h : TRow S k xs) (hb : xs.length ≤ 1000000) : Run Tryz.prog rxA 36 [.vsl k 0 1 xs.length] S = some (.ret (.vsl k 0 1 (Lib.compact xs).length), S.set k (.cells ((Lib.compact xs ++ List.replicate (xs.length - (Lib.compact xs).length) []).map .str))) := by
  rw [Run_ext _ _ (by decide) rfl]
  exact onStrs_run h rfl (by omega)
theorem trow_set {S : St} {k : Nat} {xs : List Str} (h : TRow S k xs) (ys : List Str) : TRow (S.set k (.cells (ys.map .str))) k ys := by
  unfold TRow
  rw [List.getElem?_set_self (getE_lt h)]
def NSpec (op : Int) (r : P.Rx) : Prop := ∀ A, f15 mL (Run Tryz.prog rxA) (Dcall Tryz.prog rxA) (encRx r) (.int .i64 op) A = some (.ret (encL 1 ((pn op r).map .str)), A)
theorem s15_loop (op : Int) (r : P.Rx) (hr : r.Ok) (hk : ∀ k, k ∈ r.ks → NSpec op k) (A : St) : ∀ (t : List P.Rx) (i : Nat) (S : St) (v : Nat) (acc : List Str), r.ks.drop i = t → KeepS A S → A.length ≤ v → TRow S v acc → acc.length + Rx.sizes t ≤ 100000 →
    iterK (f15_s0 mL (Run Tryz.prog rxA) (Dcall Tryz.prog rxA) A) (Env.mk (sp [(1, .int .i64 op), (3, .vsl v 0 1 acc.length), (12, encL 3 (r.ks.map encRx)), (0, .int .i64 (r.ks.length : Nat)), (0, .int .i64 (i : Nat))] 13) []) S = some (.ret (encL 1 ((names (acc ++ pnL op t)).map .str)), A) := by
  intro t
  have hl := hr.len
  induction t with
  | nil =>
    intro i S v acc ht hkp hv hrow hb
    have h1 := drop_len ht
    have hso := sort_run hrow (by omega)
    have hrow2 := trow_set hrow (sorted acc)
    have hco := compact_run hrow2 (by rw [sorted_length]; omega)
    rw [sorted_length] at hco
    have hrow3 := trow_set hrow2 (Lib.compact (sorted acc) ++ List.replicate (acc.length - (Lib.compact (sorted acc)).length) [])
    have hlv := leave_frz (m := (Lib.compact (sorted acc)).length) (keeps_set (keeps_set hkp hv) hv) hrow3 hv (by simp)
    have e : (Lib.compact (sorted acc) ++ List.replicate (acc.length - (Lib.compact (sorted acc)).length) []).take (Lib.compact (sorted acc)).length = names acc := by
      rw [List.take_left']
      · rfl
      · rfl
    rw [e] at hlv
    have e2 : acc ++ pnL op [] = acc := by simp [pnL]
    rw [e2]
    refine Tot.eq (Tot.iter ?_)
    conv => arg 2; arg 1; unfold f15_s0
    (repeat' first | (with_reducible first | apply Tot.of (qag rfl) | apply Tot.of (qa0 rfl) | apply Tot.of (qac rfl) | apply Tot.of (st_bnelim rfl) | apply Tot.of (qa3 rfl) | apply Tot.of (qas rfl) | apply Tot.bql (b := false) | apply Tot.iff) | ((conv => arg 2; arg 1; simp (disch := first | omega | assumption) only [Option.map_some, qaq, qai, qaj, qak, hso, hco]); (with_reducible first | apply Tot.of (qaa rfl) | (apply Tot.lss_f; omega))))
    refine ⟨_, ?_, rfl⟩
    conv => lhs; simp (disch := first | omega | assumption) only [bn_some, Sum.elim_inr, hlv]
  | cons k t ih =>
    intro i S v acc ht hkp hv hrow hb
    have h1 := drop_lt ht
    have hx := idx_drop (f := encRx) ht 3 true .i64
    have hcall := hk k (drop_mem ht) (S ++ [.cells [.int .i64 k.op, .str k.nm, encL 3 (k.ks.map encRx)]])
    have hlen := pn_len op k
    simp only [Rx.sizes] at hb
    have hvl := getE_lt hrow
    have hkp2 := hkp.trans (KeepS.app S [.cells [.int .i64 k.op, .str k.nm, encL 3 (k.ks.map encRx)]])
    have hrow2 : TRow (S ++ [.cells [.int .i64 k.op, .str k.nm, encL 3 (k.ks.map encRx)]]) v acc := by
      unfold TRow
      rw [List.getElem?_append_left hvl]; exact hrow
    obtain ⟨v', S', hap, hrow3, hl3, ho3, hv3⟩ := app_v hrow2 (ys := pn op k) (appendNew_encL 1 ((pn op k).map .str)) (by omega)
    have hkp3 := keeps_app hkp2 hv hl3 ho3
    have hv' : A.length ≤ v' := by
      have := hkp2.len
      rcases hv3 with h | h <;> omega
    have := ih (i + 1) S' v' (acc ++ pn op k) (drop_succ ht) hkp3 hv' hrow3 (by rw [List.length_append]; omega)
    rw [Int.natCast_add, Int.natCast_one] at this
    have e : acc ++ pnL op (k :: t) = acc ++ pn op k ++ pnL op t := by simp [pnL]
    rw [e]
    refine Tot.eq (Tot.iter ?_)
    conv => arg 2; arg 1; unfold f15_s0
    (repeat' first | (with_reducible first | apply Tot.of (qaa rfl) | apply Tot.of (qag rfl) | apply Tot.of (qax rfl) | apply Tot.of (qac rfl) | apply Tot.of (st_bnelim rfl) | apply Tot.of (qa3 rfl) | apply Tot.of (qay rfl) | apply Tot.bql (b := true) | apply Tot.ift) | ((conv => arg 2; arg 1; simp (disch := first | omega | assumption) only [qap, qan, qau, alloc_eq, ofA3, List.length_append, qai, qaj, qak, mp_some, qaf, qam, ld_sh0, ldc0, sto_sh0, stoc0, hx, rx_cell, rx_fold, rx_canon, rx_lay, r15, hcall, hap, tok_vv]); (with_reducible first | apply Tot.of (qaa rfl) | (apply Tot.lss_t; omega))))
    (refine Tot.of_eq ?_; (conv => lhs; simp (disch := first | omega | assumption) only [qai, qaj, qak]); rw [List.length_append] at this; exact this)
theorem s15 (op : Int) : ∀ (r : P.Rx) (hr : r.Ok) (hs : r.size ≤ 1000), NSpec op r := by
  refine Rx.ind fun r ih hr hs A => ?_
  have hl := hr.len
  have hkd : ∀ k, k ∈ r.ks → NSpec op k := fun k hk => ih k hk (hr.kid hk) (by have := kid_size hk; omega)
  have hsz := Rx.size_eq r
  have htk := tok_v0 (A ++ [.cells [.int .i64 r.op, .str r.nm, encL 3 (r.ks.map encRx)]])
  have hk0 := KeepS.app A [Slot.cells [.int .i64 r.op, .str r.nm, encL 3 (r.ks.map encRx)], .cells []]
  have hrow : TRow (A ++ [Slot.cells [.int .i64 r.op, .str r.nm, encL 3 (r.ks.map encRx)], .cells []]) (A.length + 1) [] := by
    unfold TRow
    rw [List.getElem?_append_right (by omega)]
    simp
  have hpn : pn op r = names ((if r.op = op then [r.nm] else []) ++ pnL op r.ks) := by
    obtain ⟨o, nm, ks⟩ := r
    unfold pn
    rfl
  unfold f15
  rw [hpn]
  by_cases ho : r.op = op
  · rw [if_pos ho]
    obtain ⟨v', S', hap, hrow3, hl3, ho3, hv3⟩ := app_v hrow (ys := [r.nm]) (y := .sl .full 1 [.str r.nm]) rfl (by simp)
    have hkp3 := keeps_app hk0 (by omega) hl3 ho3
    have hv' : A.length ≤ v' := by
      have := hk0.len
      rcases hv3 with h | h <;> omega
    have hbx : S'[A.length]? = some (.cells [.int .i64 r.op, .str r.nm, encL 3 (r.ks.map encRx)]) := by
      rw [ho3 A.length (by omega) (by simp)]
      simp
    have hld := fun gg m off => load_get hbx (gg := gg) (m := m) (off := off)
    have hlo := s15_loop op r hr hkd A r.ks 0 S' v' [r.nm] rfl hkp3 hv' hrow3 (by simp; omega)
    rw [Int.natCast_zero] at hlo
    simp only [List.nil_append, List.length_cons, List.length_nil, Nat.zero_add] at hap hlo
    refine Tot.eq ?_
    (repeat' first | (with_reducible first | apply Tot.of (qaa rfl) | apply Tot.of (qag rfl) | apply Tot.of (qa0 rfl) | apply Tot.of (qax rfl) | apply Tot.of (qac rfl) | apply Tot.of (qay rfl) | apply Tot.of (st_it rfl) | apply Tot.bql (b := true) | apply Tot.ift | (apply Tot.eql_t; omega)) | ((conv => arg 2; arg 1; simp (disch := first | omega | assumption) only [qae, qao, ofCellsS, Nat.zero_add, Nat.add_zero, List.length_append, List.length_cons, List.length_nil, qai, qaj, qak, qaz, app_one, app_nil', app_cons', ld_sh0, ldc0, sparts_str, List.length_map, rx_box, htk, hap, hld, tok_vv]); (with_reducible first | apply Tot.of (qaa rfl))))
    (refine Tot.of_eq ?_; (conv => lhs; simp (disch := first | omega | assumption) only [qai, qaj, qak, qaf]); exact hlo)
  · rw [if_neg ho]
    have hlo := s15_loop op r hr hkd A r.ks 0 _ (A.length + 1) [] rfl hk0 (by omega) hrow (by simp; omega)
    rw [Int.natCast_zero] at hlo
    refine Tot.eq ?_
    (repeat' first | (with_reducible first | apply Tot.of (qaa rfl) | apply Tot.of (qax rfl) | apply Tot.of (qac rfl) | apply Tot.of (qay rfl) | apply Tot.of (st_it rfl) | apply Tot.bql (b := false) | apply Tot.iff | (apply Tot.eql_f; omega)) | ((conv => arg 2; arg 1; simp (disch := first | omega | assumption) only [qae, qao, ofCellsS, Nat.zero_add, Nat.add_zero, List.length_append, List.length_cons, List.length_nil, qai, qaj, qak, qaz, app_one, app_nil', app_cons', ld_sh0, ldc0, List.length_map, rx_box, htk]); (with_reducible first | apply Tot.of (qaa rfl))))
    (refine Tot.of_eq ?_; (conv => lhs; simp (disch := first | omega | assumption) only [qai, qaj, qak, qaf]); exact hlo)
end Go.Vm.Rx

/- Names: the reference's text; both rows; when two rows are the same. -/
namespace Go.Vm.Rx
open Go Go.Proofs P
set_option linter.unusedVariables false
set_option linter.unusedSimpArgs false
set_option linter.unusedSectionVars false
set_option maxRecDepth 10000
set_option maxHeartbeats 4000000
theorem accA_K0 (b : Option Nat) (A : St) (ds : List D) : Kept A (accA b A ds) ↔ True := iff_true_intro (by
  cases b with
  | none => exact (qar A [.tok ds.length]).2 trivial
  | some e => exact ⟨Nat.le_refl _, fun j hj => .inl rfl⟩)
theorem accA_T0 (b : Option Nat) (A : St) (ds : List D) : (accA b A ds).take A.length = A := by cases b <;> simp [accA]
section
variable (A : St) (s : Str) (l : List Str) (hl : l.length ≤ 100000)
include hl
/-- the text is laid: the rest follows -/
theorem s37_done : ∀ (t : List Str) (i : Nat) (acc : List Str) (b : Option Nat), l.drop i = t → (∀ x, x ∈ t → x ≠ s) → acc.length + t.length ≤ 200000 → AccOk b 1 (acc.map .str) →
    iterK (f37_s0 mL (Run Tryz.prog rxA) (Dcall Tryz.prog rxA) A) (Env.mk (sp [(0, encL 1 (l.map .str)), (0, .str s), (3, accD b A.length 1 (acc.map .str)), (0, .bool true), (0, .int .i64 (i : Nat))] 41) []) (accA b A (acc.map .str)) = some (.ret (encL 1 ((acc ++ t).map .str)), A) := by
  intro t
  induction t with
  | nil =>
    intro i acc b ht hne hb ho
    have h1 := drop_len ht
    have hS := fun m => acc_shut (c := A.length) (m := m) ho (plainStrs acc)
    refine Tot.eq (Tot.iter ?_)
    conv => arg 2; arg 1; unfold f37_s0
    (repeat' first | (with_reducible first | apply Tot.of (qaa rfl) | apply Tot.of (qag rfl) | apply Tot.of (qa0 rfl) | apply Tot.of (qac rfl) | apply Tot.of (st_bnsum rfl) | apply Tot.of (qay rfl) | apply Tot.of (st_inr rfl) | apply Tot.of (qas rfl) | apply Tot.bql (b := false) | apply Tot.iff) | ((conv => arg 2; arg 1; simp (disch := first | omega | assumption) only [qah, Option.map_some, qad, qaq, un_not, Bool.not_true, qai, qaj, qak, qab, qal, qaz, List.length_map, hS, accA_K0, accA_T0]); (with_reducible first | apply Tot.of (qaa rfl) | (apply Tot.lss_f; omega))))
    ((try conv => arg 2; simp (disch := first | omega | assumption) only []); refine Tot.ret ?_)
    rw [List.append_nil]
  | cons x t ih =>
    intro i acc b ht hne hb ho
    have h1 := drop_lt ht
    have hx := idx_drop (f := D.str) ht 1 false .i64
    have hxs : ¬ x = s := hne x (by simp)
    have hap := app_acc1 (A := A) (w := 16) (d := .str x) ho (by simp only [List.length_map]; simp only [List.length_cons] at hb; omega) (by omega)
    have e1 : List.map D.str acc ++ [D.str x] = (acc ++ [x]).map .str := by simp
    rw [e1] at hap
    have := ih (i + 1) (acc ++ [x]) none (drop_succ ht) (fun y hy => hne y (List.mem_cons_of_mem _ hy)) (by simp only [List.length_append, List.length_cons, List.length_nil] at *; omega) (.own _ _)
    rw [Int.natCast_add, Int.natCast_one] at this
    have e : acc ++ x :: t = acc ++ [x] ++ t := by simp
    rw [e]
    refine Tot.eq (Tot.iter ?_)
    conv => arg 2; arg 1; unfold f37_s0
    (repeat' first | (with_reducible first | apply Tot.of (qaa rfl) | apply Tot.of (qag rfl) | apply Tot.of (qa0 rfl) | apply Tot.of (qax rfl) | apply Tot.of (qac rfl) | apply Tot.of (st_bnsum rfl) | apply Tot.of (qay rfl) | apply Tot.gbl (b := false) | apply Tot.bql (b := true) | apply Tot.bql (b := false) | apply Tot.ift | apply Tot.iff | apply Tot.ifft) | ((conv => arg 2; arg 1; simp (disch := first | omega | assumption) only [ifb_false, qap, qan, qau, qao, un_not, Bool.not_true, qai, qaj, qak, mp_some, qaf, qaz, cell_str, sparts_str, List.length_map, hx, hap]); (with_reducible first | apply Tot.of (qaa rfl) | apply Tot.bql (b := false) | (apply Tot.lss_t; omega) | (apply Tot.seql_f; first | assumption | decide | exact List.cons_ne_nil _ _))))
    (refine Tot.of_eq ?_; (conv => lhs; simp (disch := first | omega | assumption) only [qai, qaj, qak]); exact this)
/-- it is not yet laid -/
theorem s37_loop (hs : Ris l) : ∀ (t : List Str) (i : Nat) (acc : List Str) (b : Option Nat), l.drop i = t → acc ++ t = l → AccOk b 1 (acc.map .str) →
    iterK (f37_s0 mL (Run Tryz.prog rxA) (Dcall Tryz.prog rxA) A) (Env.mk (sp [(0, encL 1 (l.map .str)), (0, .str s), (3, accD b A.length 1 (acc.map .str)), (0, .bool false), (0, .int .i64 (i : Nat))] 41) []) (accA b A (acc.map .str)) = some (.ret (encL 1 ((acc ++ putN s t).map .str)), A) := by
  intro t
  induction t with
  | nil =>
    intro i acc b ht hat ho
    have h1 := drop_len ht
    have hal : acc.length ≤ l.length := by rw [← hat]; simp
    have hap := app_acc1 (A := A) (w := 16) (d := .str s) ho (by simp only [List.length_map]; omega) (by omega)
    have e1 : List.map D.str acc ++ [D.str s] = (acc ++ [s]).map .str := by simp
    rw [e1] at hap
    have hS := fun m => acc_shut (c := A.length) (m := m) (.own 1 ((acc ++ [s]).map .str)) (plainStrs (acc ++ [s]))
    refine Tot.eq (Tot.iter ?_)
    conv => arg 2; arg 1; unfold f37_s0
    (repeat' first | (with_reducible first | apply Tot.of (qaa rfl) | apply Tot.of (qag rfl) | apply Tot.of (qa0 rfl) | apply Tot.of (qax rfl) | apply Tot.of (qac rfl) | apply Tot.of (st_bnsum rfl) | apply Tot.of (qay rfl) | apply Tot.of (st_inr rfl) | apply Tot.of (qas rfl) | apply Tot.bql (b := true) | apply Tot.bql (b := false) | apply Tot.ift | apply Tot.iff) | ((conv => arg 2; arg 1; simp (disch := first | omega | assumption) only [qah, Option.map_some, qad, qaq, un_not, Bool.not_false, qai, qaj, qak, qab, qal, qaz, sparts_str, List.length_map, hap, hS, accA_K0, accA_T0]); (with_reducible first | apply Tot.of (qaa rfl) | (apply Tot.lss_f; omega))))
    ((try conv => arg 2; simp (disch := first | omega | assumption) only []); refine Tot.ret ?_)
    rfl
  | cons x t ih =>
    intro i acc b ht hat ho
    have h1 := drop_lt ht
    have hx := idx_drop (f := D.str) ht 1 false .i64
    have hal : acc.length + (t.length + 1) = l.length := by rw [← hat]; simp
    have hrt : Ris (x :: t) := by
      unfold Ris at hs ⊢
      rw [← hat, List.pairwise_append] at hs
      exact hs.2.1
    have hrx := (List.pairwise_cons.1 hrt).1
    have hap := app_acc1 (A := A) (w := 16) (d := .str x) ho (by simp only [List.length_map]; omega) (by omega)
    have e1 : List.map D.str acc ++ [D.str x] = (acc ++ [x]).map .str := by simp
    rw [e1] at hap
    have hS : (encL 1 (l.map .str)).canon = encL 1 (l.map .str) := strs_canon l 1
    have hSh : ∀ m, (encL 1 (l.map .str)).shut m = encL 1 (l.map .str) := fun m => strs_shut l 1 m
    by_cases hq : x = s
    · have e : acc ++ putN s (x :: t) = l := by unfold putN; rw [if_pos hq, hat]
      rw [e]
      refine Tot.eq (Tot.iter ?_)
      conv => arg 2; arg 1; unfold f37_s0
      (repeat' first | (with_reducible first | apply Tot.of (qag rfl) | apply Tot.of (qa0 rfl) | apply Tot.of (qax rfl) | apply Tot.of (qac rfl) | apply Tot.of (st_inr rfl) | apply Tot.of (qas rfl) | apply Tot.bql (b := true) | apply Tot.ift) | ((conv => arg 2; arg 1; simp (disch := first | omega | assumption) only [qah, Option.map_some, qad, qaq, qau, qao, qai, qaj, qak, mp_some, qab, qal, qaz, cell_str, List.length_map, hx, hS, hSh, accA_K0, accA_T0]); (with_reducible first | apply Tot.of (qaa rfl) | (apply Tot.lss_t; omega) | (apply Tot.seql_t; first | assumption | with_reducible rfl))))
      ((try conv => arg 2; simp (disch := first | omega | assumption) only []); refine Tot.ret ?_)
      rfl
    · by_cases hlt : s < x
      · have hls := lss_t hlt
        have hap2 := app_acc1 (A := A) (w := 16) (d := .str s) ho (by simp only [List.length_map]; omega) (by omega)
        have e2 : List.map D.str acc ++ [D.str s] = (acc ++ [s]).map .str := by simp
        rw [e2] at hap2
        have hap3 := app_acc1 (A := A) (w := 16) (d := .str x) (.own 1 ((acc ++ [s]).map .str)) (by simp only [List.length_map, List.length_append, List.length_cons, List.length_nil]; omega) (by omega)
        have e3 : List.map D.str (acc ++ [s]) ++ [D.str x] = (acc ++ [s] ++ [x]).map .str := by simp
        rw [e3] at hap3
        have := s37_done A s l hl t (i + 1) (acc ++ [s] ++ [x]) none (drop_succ ht) (fun y hy e => by
          subst e; exact List.lt_irrefl _ (List.lt_trans hlt (hrx _ hy))) (by simp only [List.length_append, List.length_cons, List.length_nil]; omega) (.own _ _)
        rw [Int.natCast_add, Int.natCast_one] at this
        have e : acc ++ putN s (x :: t) = acc ++ [s] ++ [x] ++ t := by unfold putN; rw [if_neg hq, if_pos hlt]; simp
        rw [e]
        refine Tot.eq (Tot.iter ?_)
        conv => arg 2; arg 1; unfold f37_s0
        (repeat' first | (with_reducible first | apply Tot.of (qaa rfl) | apply Tot.of (qag rfl) | apply Tot.of (qa0 rfl) | apply Tot.of (qax rfl) | apply Tot.of (qac rfl) | apply Tot.of (st_bnsum rfl) | apply Tot.of (qay rfl) | apply Tot.gbl (b := true) | apply Tot.bql (b := true) | apply Tot.bql (b := false) | apply Tot.ift | apply Tot.iff | apply Tot.iftt) | ((conv => arg 2; arg 1; simp (disch := first | omega | assumption) only [qa2, qap, qan, qau, qao, un_not, Bool.not_false, qai, qaj, qak, mp_some, qaf, qaz, cell_str, sparts_str, List.length_map, hx, hls, hap2, hap3]); (with_reducible first | apply Tot.of (qaa rfl) | apply Tot.bql (b := true) | (apply Tot.lss_t; omega) | (apply Tot.seql_f; first | assumption | decide | exact List.cons_ne_nil _ _))))
        (refine Tot.of_eq ?_; (conv => lhs; simp (disch := first | omega | assumption) only [qai, qaj, qak]); exact this)
      · have hls := lss_f hlt
        have := ih (i + 1) (acc ++ [x]) none (drop_succ ht) (by rw [← hat]; simp) (.own _ _)
        rw [Int.natCast_add, Int.natCast_one] at this
        have e : acc ++ putN s (x :: t) = acc ++ [x] ++ putN s t := by
          have : putN s (x :: t) = x :: putN s t := by
            conv => lhs; unfold putN
            rw [if_neg hq, if_neg hlt]
          rw [this]; simp
        rw [e]
        refine Tot.eq (Tot.iter ?_)
        conv => arg 2; arg 1; unfold f37_s0
        (repeat' first | (with_reducible first | apply Tot.of (qaa rfl) | apply Tot.of (qag rfl) | apply Tot.of (qa0 rfl) | apply Tot.of (qax rfl) | apply Tot.of (qac rfl) | apply Tot.of (st_bnsum rfl) | apply Tot.of (qay rfl) | apply Tot.gbl (b := true) | apply Tot.bql (b := true) | apply Tot.bql (b := false) | apply Tot.ift | apply Tot.iff | apply Tot.iftt) | ((conv => arg 2; arg 1; simp (disch := first | omega | assumption) only [qa2, qap, qan, qau, qao, un_not, Bool.not_false, qai, qaj, qak, mp_some, qaf, qaz, cell_str, sparts_str, List.length_map, hx, hls, hap]); (with_reducible first | apply Tot.of (qaa rfl) | apply Tot.bql (b := false) | (apply Tot.lss_t; omega) | (apply Tot.seql_f; first | assumption | decide | exact List.cons_ne_nil _ _))))
        (refine Tot.of_eq ?_; (conv => lhs; simp (disch := first | omega | assumption) only [qai, qaj, qak]); exact this)
theorem s37 (hs : Ris l) : f37 mL (Run Tryz.prog rxA) (Dcall Tryz.prog rxA) (encL 1 (l.map .str)) (.str s) A = some (.ret (encL 1 ((putN s l).map .str)), A) := by
  have := s37_loop A s l hl hs l 0 [] (some 0) rfl (by simp) (.nil _)
  rw [Int.natCast_zero] at this
  unfold f37
  refine Tot.eq ?_
  (repeat' first | (with_reducible first | apply Tot.of (st_it rfl)))
  (refine Tot.of_eq ?_; (conv => lhs; simp (disch := first | omega | assumption) only [qaf]); exact this)
end
/-! named -/
def RnSpec (op : Int) (r : P.Rx) : Prop := ∀ (l : List Str) A, l.length + r.size ≤ 100000 → Ris l → f16 mL (Run Tryz.prog rxA) (Dcall Tryz.prog rxA) (encRx r) (.int .i64 op) (encL 1 (l.map .str)) A = some (.ret (encL 1 ((rn op r l).map .str)), A)
theorem s16_loop (op : Int) (r : P.Rx) (hr : r.Ok) (hk : ∀ k, k ∈ r.ks → RnSpec op k) (A : St) : ∀ (t : List P.Rx) (i : Nat) (l : List Str), r.ks.drop i = t → l.length + Rx.sizes t ≤ 100000 → Ris l →
    iterK (f16_s0 mL (Run Tryz.prog rxA) (Dcall Tryz.prog rxA) A) (Env.mk (sp [(1, .int .i64 op), (0, encL 1 (l.map .str)), (0, .ref A.length 0), (3, .int .i64 (i : Nat))] 24) []) (A ++ [.cells [.int .i64 r.op, .str r.nm, encL 3 (r.ks.map encRx)]]) = some (.ret (encL 1 ((rnL op t l).map .str)), A) := by
  intro t
  have hl := hr.len
  induction t with
  | nil =>
    intro i l ht hb hs
    have h1 := drop_len ht
    have hSh := fun m => strs_shut l 1 m
    have hS := strs_canon l 1
    refine Tot.eq (Tot.iter ?_)
    conv => arg 2; arg 1; unfold f16_s0
    (repeat' first | (with_reducible first | apply Tot.of (qag rfl) | apply Tot.of (qa0 rfl) | apply Tot.of (qax rfl) | apply Tot.of (qac rfl) | apply Tot.of (st_inr rfl) | apply Tot.of (qas rfl) | apply Tot.bql (b := false) | apply Tot.iff) | ((conv => arg 2; arg 1; simp (disch := first | omega | assumption) only [qah, Option.map_some, qar, qad, qaq, qae, qao, ofCellsS, Nat.zero_add, qai, qaj, qak, qab, qal, qaz, ld_sh0, ldc0, List.take_left', List.length_map, hS, hSh]); (with_reducible first | apply Tot.of (qaa rfl) | (apply Tot.lss_f; omega))))
    ((try conv => arg 2; simp (disch := first | omega | assumption) only []); refine Tot.ret ?_)
    simp [rnL]
  | cons k t ih =>
    intro i l ht hb hs
    have h1 := drop_lt ht
    have hx := idx_drop (f := encRx) ht 3 true .i64
    simp only [Rx.sizes] at hb
    have hcall := fun A => hk k (drop_mem ht) l A (by omega) hs
    have hlen := rn_len op k l
    have := ih (i + 1) (rn op k l) (drop_succ ht) (by omega) (rn_ris op k hs)
    rw [Int.natCast_add, Int.natCast_one] at this
    have hS := strs_canon l 1
    refine Tot.eq (Tot.iter ?_)
    conv => arg 2; arg 1; unfold f16_s0
    (repeat' first | (with_reducible first | apply Tot.of (qaa rfl) | apply Tot.of (qag rfl) | apply Tot.of (qax rfl) | apply Tot.of (qac rfl) | apply Tot.of (st_bnelim rfl) | apply Tot.of (qaw rfl) | apply Tot.of (qa3 rfl) | apply Tot.of (qay rfl) | apply Tot.of (st_bngk rfl) | apply Tot.bql (b := true) | apply Tot.ift) | ((conv => arg 2; arg 1; simp (disch := first | omega | assumption) only [qap, qan, Kept_refl, qae, qau, qao, ofCellsS, Nat.zero_add, ofA3, qai, qaj, qak, mp_some, qaf, qam, qaz, ld_sh0, ldc0, List.length_map, hx, rx_cell, rx_fold, rx_canon, r16, hS, hcall]); (with_reducible first | apply Tot.of (qaa rfl) | apply Tot.of (st_guard rfl) | (apply Tot.lss_t; omega))))
    (refine Tot.of_eq ?_; (conv => lhs; simp (disch := first | omega | assumption) only [qa1, shut_ref, List.map_nil, Nat.zero_add, List.length_append, List.length_cons, List.length_nil, qai, qaj, qak, take_n1]); rw [strs_shut]; simp only [rnL]; exact this)
theorem s16 (op : Int) : ∀ (r : P.Rx) (hr : r.Ok), RnSpec op r := by
  refine Rx.ind fun r ih hr l A hb hs => ?_
  have hl := hr.len
  have hkd : ∀ k, k ∈ r.ks → RnSpec op k := fun k hk => ih k hk (hr.kid hk)
  have hsz := Rx.size_eq r
  have hrn : rn op r l = rnL op r.ks (if r.op = op then putN r.nm l else l) := by
    obtain ⟨o, nm, ks⟩ := r
    unfold rn
    rfl
  have hS := strs_canon l 1
  unfold f16
  rw [hrn]
  by_cases ho : r.op = op
  · rw [if_pos ho]
    have hpu := fun A => s37 A r.nm l (by omega) hs
    have hpl := putN_len r.nm l
    have hlo := s16_loop op r hr hkd A r.ks 0 (putN r.nm l) rfl (by omega) (ris_putN _ hs)
    rw [Int.natCast_zero] at hlo
    refine Tot.eq ?_
    (repeat' first | (with_reducible first | apply Tot.of (qaa rfl) | apply Tot.of (qag rfl) | apply Tot.of (qax rfl) | apply Tot.of (qac rfl) | apply Tot.of (st_bnelim rfl) | apply Tot.of (qa3 rfl) | apply Tot.of (qay rfl) | apply Tot.of (st_it rfl) | apply Tot.bql (b := true) | apply Tot.ift | (apply Tot.eql_t; omega)) | ((conv => arg 2; arg 1; simp (disch := first | omega | assumption) only [qae, qao, ofCellsS, Nat.zero_add, Nat.add_zero, canon_str, ld_sh0, ldc0, rx_box, r37, hS, hpu]); (with_reducible first | apply Tot.of (qaa rfl))))
    (refine Tot.of_eq ?_; (conv => lhs; simp (disch := first | omega | assumption) only [qai, qaj, qak, qaf]); exact hlo)
  · rw [if_neg ho]
    have hlo := s16_loop op r hr hkd A r.ks 0 l rfl (by omega) hs
    rw [Int.natCast_zero] at hlo
    refine Tot.eq ?_
    (repeat' first | (with_reducible first | apply Tot.of (qaa rfl) | apply Tot.of (qax rfl) | apply Tot.of (qac rfl) | apply Tot.of (qay rfl) | apply Tot.of (st_it rfl) | apply Tot.bql (b := false) | apply Tot.iff | (apply Tot.eql_f; omega)) | ((conv => arg 2; arg 1; simp (disch := first | omega | assumption) only [qae, qao, Nat.add_zero, ld_sh0, ldc0, rx_box]); (with_reducible first | apply Tot.of (qaa rfl))))
    (refine Tot.of_eq ?_; (conv => lhs; simp (disch := first | omega | assumption) only [qai, qaj, qak, qaf]); exact hlo)
/-! both rows -/
def nmR (op : Int) (r : P.Rx) : D := encL 1 ((if r.check = 0 then pn op r else []).map .str)
theorem s7 (r : P.Rx) (hr : r.Ok) (A : St) : f7 mL (Run Tryz.prog rxA) (Dcall Tryz.prog rxA) (encRx r) A = some (.ret (.tup [nmR 1 r, nmR 2 r, .int .i64 r.check]), A) := by
  have hck := fun A => s11 r hr A
  have hS := fun l => strs_canon l 1
  have hSh := fun l m => strs_shut l 1 m
  unfold f7 nmR
  refine Tot.eq ?_
  by_cases h : r.check = 0
  · rw [if_pos h, if_pos h, h]
    rw [h] at hck
    obtain ⟨h1, h2, h3⟩ := check_0 h
    have hn1 := fun A => s15 1 r hr h1 A
    have hn2 := fun A => s15 2 r hr h1 A
    (repeat' first | (with_reducible first | apply Tot.of (qax rfl) | apply Tot.of (qa3 rfl) | apply Tot.of (st_gs rfl) | apply Tot.of (st_leave rfl) | apply Tot.bql (b := false) | apply Tot.iff) | ((conv => arg 2; arg 1; simp (disch := first | omega | assumption) only [ofA3, sameAd_refl, and_self, qaf, qam, ld_sh0, ldc0, rx_box, rx_fold, rx_canon, r11, hck, r15, hn1, hn2]); (with_reducible first | apply Tot.of (qaa rfl) | apply Tot.of (st_guard rfl) | (apply Tot.neq_t; omega))))
    ((try conv => arg 2; simp (disch := first | omega | assumption) only [qah, qa1, shut_tup, shutL_nil, shutL_cons, qar, qad, qaf, qam, canon_tup, canonL_nil, canonL_cons, qab, qal, List.take_left', hS, hSh]); refine Tot.ret ?_)
    rfl
  · rw [if_neg h, if_neg h]
    (repeat' first | (with_reducible first | apply Tot.of (qax rfl) | apply Tot.of (qa3 rfl) | apply Tot.of (st_leave rfl) | apply Tot.bql (b := true) | apply Tot.ift) | ((conv => arg 2; arg 1; simp (disch := first | omega | assumption) only [ofA3, qaf, ld_sh0, ldc0, rx_box, rx_fold, rx_canon, r11, hck]); (with_reducible first | apply Tot.of (qaa rfl) | (apply Tot.neq_f; omega))))
    ((try conv => arg 2; simp (disch := first | omega | assumption) only [qah, qa1, shut_sl, shut_tup, shutL_nil, shutL_cons, own_full, qar, qad, qam, canon_tup, canonL_nil, canonL_cons, canon_nil, qab, qal, List.take_left']); refine Tot.ret ?_)
    rfl
theorem s8 (r : P.Rx) (hr : r.Ok) (A : St) : f8 mL (Run Tryz.prog rxA) (Dcall Tryz.prog rxA) (encRx r) A = some (.ret (.tup [nmR 1 r, nmR 2 r, .int .i64 r.check]), A) := by
  have hck := fun A => s13 r hr A
  have hS := fun l => strs_canon l 1
  have hSh := fun l m => strs_shut l 1 m
  unfold f8 nmR
  refine Tot.eq ?_
  by_cases h : r.check = 0
  · rw [if_pos h, if_pos h, h]
    rw [h] at hck
    obtain ⟨h1, h2, h3⟩ := check_0 h
    have hn1 := fun A => s16 1 r hr [] A (by simp; omega) ris_nil
    have hn2 := fun A => s16 2 r hr [] A (by simp; omega) ris_nil
    rw [← pn_rn] at hn1 hn2
    simp only [List.map_nil, encL_nil] at hn1 hn2
    (repeat' first | (with_reducible first | apply Tot.of (qax rfl) | apply Tot.of (qa3 rfl) | apply Tot.of (st_gs rfl) | apply Tot.of (st_leave rfl) | apply Tot.bql (b := false) | apply Tot.iff) | ((conv => arg 2; arg 1; simp (disch := first | omega | assumption) only [ofA3, sameAd_refl, and_self, qaf, qam, canon_nil, ld_sh0, ldc0, rx_box, rx_fold, rx_canon, r13, hck, r16, hn1, hn2]); (with_reducible first | apply Tot.of (qaa rfl) | apply Tot.of (st_guard rfl) | (apply Tot.neq_t; omega))))
    ((try conv => arg 2; simp (disch := first | omega | assumption) only [qah, qa1, shut_tup, shutL_nil, shutL_cons, qar, qad, qaf, qam, canon_tup, canonL_nil, canonL_cons, qab, qal, List.take_left', hS, hSh]); refine Tot.ret ?_)
    rfl
  · rw [if_neg h, if_neg h]
    (repeat' first | (with_reducible first | apply Tot.of (qax rfl) | apply Tot.of (qa3 rfl) | apply Tot.of (st_leave rfl) | apply Tot.bql (b := true) | apply Tot.ift) | ((conv => arg 2; arg 1; simp (disch := first | omega | assumption) only [ofA3, qaf, ld_sh0, ldc0, rx_box, rx_fold, rx_canon, r13, hck]); (with_reducible first | apply Tot.of (qaa rfl) | (apply Tot.neq_f; omega))))
    ((try conv => arg 2; simp (disch := first | omega | assumption) only [qah, qa1, shut_sl, shut_tup, shutL_nil, shutL_cons, own_full, qar, qad, qam, canon_tup, canonL_nil, canonL_cons, canon_nil, qab, qal, List.take_left']); refine Tot.ret ?_)
    rfl
/-! two rows are the same -/
theorem s9_loop (A : St) (l : List Str) (hl : l.length ≤ 100000) : ∀ (t : List Str) (i : Nat), l.drop i = t →
    iterK (f9_s0 mL (Run Tryz.prog rxA) (Dcall Tryz.prog rxA) A) (Env.mk (sp [(0, encL 1 (l.map .str)), (0, encL 1 (l.map .str)), (3, .int .i64 (i : Nat))] 20) []) A = some (.ret (.bool true), A) := by
  intro t
  induction t with
  | nil =>
    intro i ht
    have h1 := drop_len ht
    refine Tot.eq (Tot.iter ?_)
    conv => arg 2; arg 1; unfold f9_s0
    (repeat' first | (with_reducible first | apply Tot.of (qag rfl) | apply Tot.of (qa0 rfl) | apply Tot.of (qac rfl) | apply Tot.of (st_inr rfl) | apply Tot.of (qas rfl) | apply Tot.bql (b := false) | apply Tot.iff) | ((conv => arg 2; arg 1; simp (disch := first | omega | assumption) only [qah, Option.map_some, qav, Kept_refl, qad, qaq, List.take_length, qai, qaj, qak, qat, qab, qal, qaz, List.length_map]); (with_reducible first | apply Tot.of (qaa rfl) | (apply Tot.lss_f; omega))))
    ((try conv => arg 2; simp (disch := first | omega | assumption) only []); refine Tot.ret ?_)
    rfl
  | cons x t ih =>
    intro i ht
    have h1 := drop_lt ht
    have hx := idx_drop (f := D.str) ht 1 false .i64
    have := ih (i + 1) (drop_succ ht)
    rw [Int.natCast_add, Int.natCast_one] at this
    refine Tot.eq (Tot.iter ?_)
    conv => arg 2; arg 1; unfold f9_s0
    (repeat' first | (with_reducible first | apply Tot.of (qaa rfl) | apply Tot.of (qag rfl) | apply Tot.of (qax rfl) | apply Tot.of (qac rfl) | apply Tot.of (qaw rfl) | apply Tot.of (qay rfl) | apply Tot.of (st_guard rfl) | apply Tot.of (st_bngs rfl) | apply Tot.of (st_bngk rfl) | apply Tot.bql (b := true) | apply Tot.bql (b := false) | apply Tot.ift | apply Tot.iff | (apply Tot.sneq_t; first | assumption | with_reducible rfl)) | ((conv => arg 2; arg 1; simp (disch := first | omega | assumption) only [qap, qan, Kept_refl, qau, qao, qai, qaj, qak, mp_some, qaf, qaz, cell_str, List.length_map, hx]); (with_reducible first | apply Tot.of (qaa rfl) | apply Tot.of (st_guard rfl) | (apply Tot.lss_t; omega))))
    (refine Tot.of_eq ?_; (conv => lhs; simp (disch := first | omega | assumption) only [qa1, List.take_length, List.map_nil, qai, qak]); rw [strs_shut]; exact this)
theorem s9 (A : St) (l : List Str) (hl : l.length ≤ 100000) : f9 mL (Run Tryz.prog rxA) (Dcall Tryz.prog rxA) (encL 1 (l.map .str)) (encL 1 (l.map .str)) A = some (.ret (.bool true), A) := by
  have := s9_loop A l hl l 0 rfl
  rw [Int.natCast_zero] at this
  unfold f9
  refine Tot.eq ?_
  (repeat' first | (with_reducible first | apply Tot.of (st_it rfl) | apply Tot.bql (b := false) | apply Tot.iff | (apply Tot.neq_t; omega)) | ((conv => arg 2; arg 1; simp (disch := first | omega | assumption) only [qaz, List.length_map]); (with_reducible first | apply Tot.of (qaa rfl))))
  (refine Tot.of_eq ?_; (conv => lhs; simp (disch := first | omega | assumption) only [qaf]); exact this)
end Go.Vm.Rx

/- What the marks mean: law 5. -/
namespace Go.Vm.Rx
open Go Go.Proofs P
set_option linter.unusedVariables false
set_option linter.unusedSimpArgs false
set_option linter.unusedSectionVars false
set_option maxRecDepth 10000
set_option maxHeartbeats 4000000
mutual
theorem right_Nm : ∀ r : P.Rx, r.right = true → r.Nm
  | .mk op nm ks, h => by
    unfold Rx.right at h
    simp only [Bool.and_eq_true] at h
    obtain ⟨h1, h2⟩ := h
    have h3 := rights_Nms ks h2
    unfold Rx.Nm
    rcases nodeOk_cases h1 with ⟨h0, hnm, hks⟩ | ⟨h0, hnm, hks⟩ | ⟨h0, hnm, _, _⟩ | ⟨h0, hnm, g, _⟩ | ⟨h0, hnm, _⟩
    · obtain ⟨c, r, rfl, hl, _⟩ := name_chars hnm
      refine ⟨by simp only [List.length_cons]; omega, fun e => by omega, h3⟩
    · refine ⟨by rw [hnm]; simp, fun e => by omega, h3⟩
    · refine ⟨by rw [hnm]; simp, fun e => by omega, h3⟩
    · refine ⟨by rw [hnm]; simp, fun e => g, h3⟩
    · refine ⟨by rw [hnm]; simp, fun e => by omega, h3⟩
theorem rights_Nms : ∀ ks : List P.Rx, Rx.rights ks = true → Rx.Nms ks
  | [], _ => trivial
  | k :: ks, h => by
    simp only [Rx.rights, Bool.and_eq_true] at h
    exact ⟨right_Nm k h.1, rights_Nms ks h.2⟩
end
theorem take_whos (p : List Who) : encL 2 ((p.take 30).map encWho) = (D.sl .sh 2 ((p.take 30).map encWho)).canon := (canon_sl (plainWhos _) _ _).symm
theorem s4 (p : List Who) (hp : p.length ≤ 100000000) (A : St) : f4 mL (Run Tryz.prog rxA) (Dcall Tryz.prog rxA) (encL 2 (p.map encWho)) A = some (.ret (encL 2 ((p.take 30).map encWho)), A) := by
  have hpl : lenSlO (encL 2 (p.map encWho)) = some (.int .i64 (p.length : Nat)) := by simp
  have hsh : ∀ l : List Who, ∀ n m : Nat, (encL n (l.map encWho)).shut m = encL n (l.map encWho) := fun l n m => (encL_plain (plainWhos l) n).shut m
  unfold f4
  refine Tot.eq ?_
  by_cases h : 30 < p.length
  · have hsl : sliceSlO 2 (encL 2 (p.map encWho)) none (some (.int .i64 30)) none = some (.sl .sh 2 ((p.take 30).map encWho)) := by
      cases p with
      | nil => simp at h
      | cons w l =>
        have e : esOk .sh 2 2 ((w :: l).map encWho) = true := rfl
        simp only [List.length_cons] at h
        simp [sliceSlO, encL, optInt, D.int?, sliceSl, sliceOwn, esOk, List.map_take]
        omega
    have hs2 : (D.sl .sh 2 ((p.take 30).map encWho)).shut A.length = .sl .sh 2 ((p.take 30).map encWho) := by
      have := (plainWhos (p.take 30)).shut A.length
      simp only [D.shut, this, Own.shut]
    (repeat' first | (with_reducible first | apply Tot.of (st_leave rfl) | apply Tot.bql (b := true) | apply Tot.ift) | ((conv => arg 2; arg 1; simp (disch := first | omega | assumption) only [qaf, hsl, hpl]); (with_reducible first | apply Tot.of (qaa rfl) | (apply Tot.gtr_t; omega))))
    ((try conv => arg 2; simp (disch := first | omega | assumption) only [qah, Kept_refl, qad, List.take_length, qab, qal, hs2]); refine Tot.ret ?_)
    rw [take_whos]
  · rw [List.take_of_length_le (by omega)]
    (repeat' first | (with_reducible first | apply Tot.of (st_leave rfl) | apply Tot.bql (b := false) | apply Tot.iff) | ((conv => arg 2; arg 1; simp (disch := first | omega | assumption) only [qaf, hpl]); (with_reducible first | apply Tot.of (qaa rfl) | (apply Tot.gtr_f; omega))))
    ((try conv => arg 2; simp (disch := first | omega | assumption) only [qah, Kept_refl, qad, List.take_length, qab, qal, hsh, whos_canon]); refine Tot.ret ?_)
    rfl
theorem bool_eql (n : Bool) (l : Bool) : binO .eql 0 l (.bool n) (.bool n) = some (.bool true) := by cases n <;> rfl
theorem alive_st (A : St) : Run Tryz.prog rxA 10 [] A = some (.ret (.bool true), A) := by
  rw [Run_ext _ _ (by decide) rfl]; rfl
end Go.Vm.Rx
