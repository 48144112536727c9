/- RxS1, RxS2, RxS3, RxS4 in one text. -/
import Derived.Test.YtmaipfiikbcfmaaDoorRxF1
import Derived.Test.YtmaipfiikbcfmaaDoorRxF2
import Derived.Test.YtmaipfiikbcfmaaDoorRxF3
import Derived.Test.YtmaipfiikbcfmaaDoorVmSt2
import Derived.Test.YtmaipfiikbcfmaaDoorRxPure3
import Derived.Lib.Bytealg
set_option linter.all false
/- What the tests of bytes and names come to. -/
namespace Go.Vm.Rx
open Go.Proofs P
set_option linter.unusedVariables false
set_option linter.unusedSimpArgs false
set_option maxRecDepth 10000
set_option maxHeartbeats 1000000
theorem s99 (c : UInt8) (A : St) : f99 mL (Run Tryd.prog rxA) (Dcall Tryd.prog rxA) (.int .u8 (c.toNat : Int)) A = some (.ret (.bool (digit c)), A) := by
  unfold f99
  refine Tot.eq ?_
  (repeat' first | (with_reducible first | apply Tot.of (qad rfl) | apply Tot.of (st_mp rfl) | apply Tot.of (st_bnif rfl) | apply Tot.of (st_leave rfl) | apply Tot.gbl (b := true) | apply Tot.gbl (b := false) | apply Tot.bql (b := true) | apply Tot.bql (b := false) | apply Tot.iftt | apply Tot.ifft | (apply Tot.leq; all_goals intro hsp) | (apply Tot.geq; all_goals intro hsp)))
  all_goals (((try conv => arg 2; simp (disch := first | omega | assumption) only [ifb_true, ifb_false, qac, shut_bool, Kept_refl, qab, List.take_length, canon_bool, qaa, leave_can]); refine Tot.ret ?_); simp [digit]; omega)
theorem s95 (c : UInt8) (A : St) : f95 mL (Run Tryd.prog rxA) (Dcall Tryd.prog rxA) (.int .u8 (c.toNat : Int)) A = some (.ret (.bool (letter c)), A) := by
  unfold f95
  refine Tot.eq ?_
  (repeat' first | (with_reducible first | apply Tot.of (qad rfl) | apply Tot.of (st_mp rfl) | apply Tot.of (st_bnif rfl) | apply Tot.of (st_ret rfl) | apply Tot.of (st_leave rfl) | apply Tot.gbl (b := true) | apply Tot.gbl (b := false) | apply Tot.gbn | apply Tot.bql (b := true) | apply Tot.bql (b := false) | apply Tot.iff | apply Tot.iftt | apply Tot.ifft | apply Tot.iftf | apply Tot.ifff | (apply Tot.leq_f; omega) | (apply Tot.leq; all_goals intro hsp) | (apply Tot.geq_t; omega) | (apply Tot.geq; all_goals intro hsp) | (apply Tot.eql_f; omega) | (apply Tot.eql; all_goals intro hsp)) | ((conv => arg 2; arg 1; simp (disch := first | omega | assumption) only [ifb_true, ifb_false, canon_int, r99, s99]); (with_reducible first | apply Tot.of (qad rfl) | apply Tot.gbl (b := true) | apply Tot.gbl (b := false) | apply Tot.bql (b := true) | apply Tot.bql (b := false) | (apply Tot.gb_t; assumption) | (apply Tot.gb_f; assumption) | (apply Tot.bq_t; assumption) | (apply Tot.bq_f; assumption) | (apply Tot.gb; all_goals intro hsp))))
  all_goals (((try conv => arg 2; simp (disch := first | omega | assumption) only [ifb_true, ifb_false, qac, shut_bool, Kept_refl, qab, List.take_length, canon_bool, qaa, leave_can]); refine Tot.ret ?_); simp [letter, *] <;> omega)
/-- the or of a byte and 32 -/
theorem s80_loop (s : Str) (hs : s.length < 4611686018427387904) (A : St) : ∀ (t : Str) (i : Nat), s.drop i = t →
    iterK (f80_s0 mL (Run Tryd.prog rxA) (Dcall Tryd.prog rxA) A) (Env.mk (sp [(0, .str s), (2, .int .i64 (i : Nat))] 29) []) A = some (.ret (.bool (t.all letter && decide (s ≠ []) && decide (s.length ≤ 64) && !digit (s.headD 0) && decide ((s.headD 0).toNat ≠ 45))), A) := by
  intro t
  induction t with
  | nil =>
    intro i ht
    have hl := drop_len ht
    refine Tot.eq (Tot.iter ?_)
    conv => arg 2; arg 1; unfold f80_s0
    cases s with
    | nil =>
      (repeat' first | (with_reducible first | apply Tot.of (qad rfl) | apply Tot.of (st_bnbn rfl) | apply Tot.of (st_map rfl) | apply Tot.of (st_mp rfl) | apply Tot.of (st_bnif rfl) | apply Tot.of (st_bnelim rfl) | apply Tot.of (st_ret rfl) | apply Tot.of (st_inr rfl) | apply Tot.of (st_bnleave rfl) | apply Tot.gbl (b := false) | apply Tot.bql (b := false) | apply Tot.iff | apply Tot.ifft) | ((conv => arg 2; arg 1; simp (disch := first | omega | assumption) only [ifb_false, qac, Option.map_some, shut_bool, Kept_refl, qab, leaves_nil, lenStr_str, List.take_length, List.length_nil, sp_g0, sp_gs, sp_g1, canon_bool, qaa, leave_can]); (with_reducible first | apply Tot.of (qad rfl) | apply Tot.gbl (b := false) | apply Tot.bql (b := false) | (apply Tot.lss_f; omega) | (apply Tot.sneq_t; first | assumption | with_reducible rfl))))
      all_goals (((try conv => arg 2; simp (disch := first | omega | assumption) only []); refine Tot.ret ?_); simp)
    | cons c r =>
      simp only [List.length_cons] at hs hl
      (repeat' first | (with_reducible first | apply Tot.of (qad rfl) | apply Tot.of (st_bnbn rfl) | apply Tot.of (st_map rfl) | apply Tot.of (st_mp rfl) | apply Tot.of (st_bnif rfl) | apply Tot.of (st_bnelim rfl) | apply Tot.of (st_ret rfl) | apply Tot.of (st_inr rfl) | apply Tot.of (st_bnleave rfl) | apply Tot.gbl (b := true) | apply Tot.gbl (b := false) | apply Tot.bql (b := true) | apply Tot.bql (b := false) | apply Tot.iff | apply Tot.iftt | apply Tot.ifft | apply Tot.if_n | (apply Tot.neq; all_goals intro hsp) | (apply Tot.gb_t; assumption) | (apply Tot.gb_f; assumption) | (apply Tot.bq_t; assumption) | (apply Tot.bq_f; assumption) | (apply Tot.gb; all_goals intro hsp)) | ((conv => arg 2; arg 1; simp (disch := first | omega | assumption) only [ifb_true, ifb_false, qac, Option.map_some, shut_bool, Kept_refl, qab, leaves_nil, lenStr_str, List.take_length, List.length_cons, un_not, Bool.not_true, Bool.not_false, sp_g0, sp_gs, sp_g1, n64_eq, canon_int, canon_bool, qaa, leave_can, idxStr0, r99, s99]); (with_reducible first | apply Tot.of (qad rfl) | apply Tot.gbl (b := true) | apply Tot.gbl (b := false) | apply Tot.bql (b := true) | apply Tot.bql (b := false) | apply Tot.gb_n | apply Tot.bq_n | (apply Tot.lss_f; omega) | (apply Tot.leq; all_goals intro hsp) | (apply Tot.sneq_f; first | assumption | decide | exact List.cons_ne_nil _ _))))
      all_goals (((try conv => arg 2; simp (disch := first | omega | assumption) only []); refine Tot.ret ?_); simp [*] <;> omega)
  | cons c t ih =>
    intro i ht
    have hl := drop_lt ht
    refine Tot.eq (Tot.iter ?_)
    conv => arg 2; arg 1; unfold f80_s0
    have hx := idxStr ht .i64
    (repeat' first | (with_reducible first | apply Tot.of (qad rfl) | apply Tot.of (st_bnbn rfl) | apply Tot.of (st_map rfl) | apply Tot.of (st_bnif rfl) | apply Tot.of (st_bnelim rfl) | apply Tot.of (st_bnguard rfl) | apply Tot.of (st_ret rfl) | apply Tot.of (st_inl rfl) | apply Tot.of (st_inr rfl) | apply Tot.of (st_bngk rfl) | apply Tot.of (st_bnleave rfl) | apply Tot.bql (b := true) | apply Tot.ift | apply Tot.iff | apply Tot.if_n | apply Tot.bq_n | (apply Tot.bq; all_goals intro hsp)) | ((conv => arg 2; arg 1; simp (disch := first | omega | assumption) only [qac, Option.map_some, binO_add, wrap_i64, shut_bool, Kept_refl, qab, leaves_nil, lenStr_str, List.take_length, un_not, sp_g0, sp_gs, sp_g1, n64_eq, canon_int, canon_bool, qaa, leave_can, r95, s95, hx]); (with_reducible first | apply Tot.of (qad rfl) | apply Tot.of (st_guard rfl) | (apply Tot.lss_t; omega))))
    · (refine Tot.of_eq ?_; (conv => lhs; simp (disch := first | omega | assumption) only [shut_int, shut_strD, List.take_length, List.map_nil, sp_g0]); have := ih (i + 1) (drop_succ ht); simp only [List.all_cons, *, Bool.true_and]; exact this)
    · ((try conv => arg 2; simp (disch := first | omega | assumption) only []); refine Tot.ret ?_); simp [*]
theorem name_eq (s : Str) : (s.all letter && decide (s ≠ []) && decide (s.length ≤ 64) && !digit (s.headD 0) && decide ((s.headD 0).toNat ≠ 45)) = isName s := by
  cases s with
  | nil => rfl
  | cons c r =>
    unfold isName
    have e : decide ((c :: r).length ≤ 64) = decide (r.length < 64) := by
      simp only [List.length_cons, decide_eq_decide]; omega
    rw [e]
    simp only [List.headD_cons]
    cases (c :: r).all letter <;> cases decide (r.length < 64) <;> cases digit c <;> by_cases h : c.toNat = 45 <;> simp [h]
theorem s80 (s : Str) (hs : s.length < 4611686018427387904) (A : St) : f80 mL (Run Tryd.prog rxA) (Dcall Tryd.prog rxA) (.str s) A = some (.ret (.bool (isName s)), A) := by
  unfold f80
  refine Tot.eq ?_
  (repeat' first | (with_reducible first | apply Tot.of (st_it rfl)))
  refine Tot.of_eq ?_
  rw [← name_eq]
  exact s80_loop s hs A s 0 rfl
end Go.Vm.Rx

/- What the readers of one word come to. -/
namespace Go.Vm.Rx
open Go.Proofs P
set_option linter.unusedVariables false
set_option linter.unusedSimpArgs false
set_option maxRecDepth 10000
set_option maxHeartbeats 1000000
/-! next -/
/-! size -/
end Go.Vm.Rx

/- What the readers of lines come to. -/
namespace Go.Vm.Rx
open Go.Proofs P
set_option linter.unusedVariables false
set_option linter.unusedSimpArgs false
set_option maxRecDepth 10000
set_option maxHeartbeats 1000000
def cellsW (w : Word) : List D := [.str w.t, .int .i64 w.line, .int .i64 w.col]
def encW (w : Word) : D := .agg (cellsW w)
end Go.Vm.Rx

/- What the program's reader of a line comes to. -/
namespace Go.Vm.Rx
open Go.Proofs P
set_option linter.unusedVariables false
set_option linter.unusedSimpArgs false
set_option maxRecDepth 10000
set_option maxHeartbeats 1000000
end Go.Vm.Rx
