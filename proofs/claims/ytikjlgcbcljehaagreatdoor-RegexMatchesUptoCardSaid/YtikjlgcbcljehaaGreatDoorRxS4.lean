/- RxS1, RxS2, RxS3, RxS4 in one text. -/
import Derived.Test.YtikjlgcbcljehaaGreatDoorRxF1
import Derived.Test.YtikjlgcbcljehaaGreatDoorRxF2
import Derived.Test.YtikjlgcbcljehaaGreatDoorVmSt2
import Derived.Test.YtikjlgcbcljehaaGreatDoorRxPure3
import Derived.Lib.Bytealg
set_option linter.all false
/- What the tests of bytes and names come to. -/
namespace Go.Vm.Rx
open Go.Proofs P
set_option linter.unusedVariables false
set_option linter.unusedSimpArgs false
set_option maxRecDepth 10000
set_option maxHeartbeats 1000000
theorem s84 (c : UInt8) (A : St) : f84 mL (Run Tryz.prog rxA) (Dcall Tryz.prog rxA) (.int .u8 (c.toNat : Int)) A = some (.ret (.bool (digit c)), A) := by
  unfold f84
  refine Tot.eq ?_
  (repeat' first | (with_reducible first | apply Tot.of (qaa rfl) | apply Tot.of (qax rfl) | apply Tot.of (qac rfl) | apply Tot.of (st_leave rfl) | apply Tot.gbl (b := true) | apply Tot.gbl (b := false) | apply Tot.bql (b := true) | apply Tot.bql (b := false) | apply Tot.iftt | apply Tot.ifft | (apply Tot.leq; all_goals intro hsp) | (apply Tot.geq; all_goals intro hsp)))
  all_goals (((try conv => arg 2; simp (disch := first | omega | assumption) only [qa2, ifb_false, qah, qav, Kept_refl, qad, List.take_length, qat, qab, qal]); refine Tot.ret ?_); simp [digit]; omega)
theorem s60 (c : UInt8) (A : St) : f60 mL (Run Tryz.prog rxA) (Dcall Tryz.prog rxA) (.int .u8 (c.toNat : Int)) A = some (.ret (.bool (digit c)), A) := by
  unfold f60
  refine Tot.eq ?_
  (repeat' first | (with_reducible first | apply Tot.of (qaa rfl) | apply Tot.of (qax rfl) | apply Tot.of (qac rfl) | apply Tot.of (st_leave rfl) | apply Tot.gbl (b := true) | apply Tot.gbl (b := false) | apply Tot.bql (b := true) | apply Tot.bql (b := false) | apply Tot.iftt | apply Tot.ifft | (apply Tot.leq; all_goals intro hsp) | (apply Tot.geq; all_goals intro hsp)))
  all_goals (((try conv => arg 2; simp (disch := first | omega | assumption) only [qa2, ifb_false, qah, qav, Kept_refl, qad, List.take_length, qat, qab, qal]); refine Tot.ret ?_); simp [digit]; omega)
theorem s83 (c : UInt8) (A : St) : f83 mL (Run Tryz.prog rxA) (Dcall Tryz.prog rxA) (.int .u8 (c.toNat : Int)) A = some (.ret (.bool (letter c)), A) := by
  unfold f83
  refine Tot.eq ?_
  (repeat' first | (with_reducible first | apply Tot.of (qaa rfl) | apply Tot.of (qax rfl) | apply Tot.of (qac rfl) | apply Tot.of (qa3 rfl) | apply Tot.of (st_leave rfl) | apply Tot.gbl (b := true) | apply Tot.gbl (b := false) | apply Tot.gbn | apply Tot.bql (b := true) | apply Tot.bql (b := false) | apply Tot.iff | apply Tot.iftt | apply Tot.ifft | apply Tot.iftf | apply Tot.ifff | (apply Tot.leq_f; omega) | (apply Tot.leq; all_goals intro hsp) | (apply Tot.geq_t; omega) | (apply Tot.geq; all_goals intro hsp) | (apply Tot.eql_f; omega) | (apply Tot.eql; all_goals intro hsp)) | ((conv => arg 2; arg 1; simp (disch := first | omega | assumption) only [qa2, ifb_false, qam, r84, s84]); (with_reducible first | apply Tot.of (qaa rfl) | apply Tot.gbl (b := true) | apply Tot.gbl (b := false) | apply Tot.bql (b := true) | apply Tot.bql (b := false) | (apply Tot.gb_t; assumption) | (apply Tot.gb_f; assumption) | (apply Tot.bq_t; assumption) | (apply Tot.bq_f; assumption) | (apply Tot.gb; all_goals intro hsp))))
  all_goals (((try conv => arg 2; simp (disch := first | omega | assumption) only [qa2, ifb_false, qah, qav, Kept_refl, qad, List.take_length, qat, qab, qal]); refine Tot.ret ?_); simp [letter, *] <;> omega)
/-- the or of a byte and 32 -/
def low (c : UInt8) : Nat := (c ||| 32).toNat
theorem or32 (n : Nat) (l : Bool) (c : UInt8) : binO .or n l (.int .u8 (c.toNat : Int)) (.int .u8 32) = some (.int .u8 ((low c : Nat) : Int)) := by
  rw [binO_or]
  revert c
  have h : ∀ c : Fin 256, IntKind.wrap .u8 (BitVec.ofInt IntKind.u8.bits (((UInt8.ofNat c.val).toNat : Nat) : Int) ||| BitVec.ofInt IntKind.u8.bits 32).toNat = ((low (UInt8.ofNat c.val) : Nat) : Int) := by decide +kernel
  intro c
  have := h ⟨c.toNat, c.toNat_lt⟩
  simp only [UInt8.ofNat_toNat] at this
  rw [this]
theorem low_letter (c : UInt8) : letter c = ((decide (97 ≤ low c ∧ low c ≤ 122)) || digit c || decide (c.toNat = 95) || decide (c.toNat = 45)) := by
  have h : ∀ c : Fin 256, letter (UInt8.ofNat c.val) = ((decide (97 ≤ low (UInt8.ofNat c.val) ∧ low (UInt8.ofNat c.val) ≤ 122)) || digit (UInt8.ofNat c.val) || decide ((UInt8.ofNat c.val).toNat = 95) || decide ((UInt8.ofNat c.val).toNat = 45)) := by decide +kernel
  have := h ⟨c.toNat, c.toNat_lt⟩
  simpa only [UInt8.ofNat_toNat] using this
theorem s61 (c : UInt8) (A : St) : f61 mL (Run Tryz.prog rxA) (Dcall Tryz.prog rxA) (.int .u8 (c.toNat : Int)) A = some (.ret (.bool (letter c)), A) := by
  unfold f61
  rw [low_letter]
  refine Tot.eq ?_
  (repeat' first | (with_reducible first | apply Tot.of (qaa rfl) | apply Tot.of (qax rfl) | apply Tot.of (qac rfl) | apply Tot.of (qa3 rfl) | apply Tot.of (st_leave rfl) | apply Tot.gbl (b := true) | apply Tot.gbl (b := false) | apply Tot.bql (b := true) | apply Tot.bql (b := false) | apply Tot.iftt | apply Tot.ifft | apply Tot.iftf | apply Tot.ifff | (apply Tot.leq; all_goals intro hsp) | (apply Tot.geq; all_goals intro hsp) | (apply Tot.eql; all_goals intro hsp)) | ((conv => arg 2; arg 1; simp (disch := first | omega | assumption) only [qa2, ifb_false, qam, r60, s60, or32]); (with_reducible first | apply Tot.of (qaa rfl) | apply Tot.gbl (b := true) | apply Tot.gbl (b := false) | apply Tot.bql (b := true) | apply Tot.bql (b := false) | (apply Tot.gb_t; assumption) | (apply Tot.gb_f; assumption) | (apply Tot.bq_t; assumption) | (apply Tot.bq_f; assumption) | (apply Tot.gb; all_goals intro hsp))))
  all_goals (((try conv => arg 2; simp (disch := first | omega | assumption) only [qa2, ifb_false, qah, qav, Kept_refl, qad, List.take_length, qat, qab, qal]); refine Tot.ret ?_); simp [*] <;> omega)
theorem s63_loop (s : Str) (hs : s.length < 4611686018427387904) (A : St) : ∀ (t : Str) (i : Nat), s.drop i = t →
    iterK (f63_s0 mL (Run Tryz.prog rxA) (Dcall Tryz.prog rxA) A) (Env.mk (sp [(0, .str s), (2, .int .i64 (i : Nat))] 29) []) A = some (.ret (.bool (t.all letter && decide (s ≠ []) && decide (s.length ≤ 64) && !digit (s.headD 0) && decide ((s.headD 0).toNat ≠ 45))), A) := by
  intro t
  induction t with
  | nil =>
    intro i ht
    have hl := drop_len ht
    refine Tot.eq (Tot.iter ?_)
    conv => arg 2; arg 1; unfold f63_s0
    cases s with
    | nil =>
      (repeat' first | (with_reducible first | apply Tot.of (qaa rfl) | apply Tot.of (qag rfl) | apply Tot.of (qa0 rfl) | apply Tot.of (qax rfl) | apply Tot.of (qac rfl) | apply Tot.of (st_bnelim rfl) | apply Tot.of (qa3 rfl) | apply Tot.of (st_inr rfl) | apply Tot.of (qas rfl) | apply Tot.gbl (b := false) | apply Tot.bql (b := false) | apply Tot.iff | apply Tot.ifft) | ((conv => arg 2; arg 1; simp (disch := first | omega | assumption) only [ifb_false, qah, Option.map_some, qav, Kept_refl, qad, qaq, lenStr_str, List.take_length, List.length_nil, qai, qaj, qak, qat, qab, qal]); (with_reducible first | apply Tot.of (qaa rfl) | apply Tot.gbl (b := false) | apply Tot.bql (b := false) | (apply Tot.lss_f; omega) | (apply Tot.sneq_t; first | assumption | with_reducible rfl))))
      all_goals (((try conv => arg 2; simp (disch := first | omega | assumption) only []); refine Tot.ret ?_); simp)
    | cons c r =>
      simp only [List.length_cons] at hs hl
      (repeat' first | (with_reducible first | apply Tot.of (qaa rfl) | apply Tot.of (qag rfl) | apply Tot.of (qa0 rfl) | apply Tot.of (qax rfl) | apply Tot.of (qac rfl) | apply Tot.of (st_bnelim rfl) | apply Tot.of (qa3 rfl) | apply Tot.of (st_inr rfl) | apply Tot.of (qas rfl) | apply Tot.gbl (b := true) | apply Tot.gbl (b := false) | apply Tot.bql (b := true) | apply Tot.bql (b := false) | apply Tot.iff | apply Tot.iftt | apply Tot.ifft | apply Tot.if_n | (apply Tot.neq; all_goals intro hsp) | (apply Tot.gb_t; assumption) | (apply Tot.gb_f; assumption) | (apply Tot.bq_t; assumption) | (apply Tot.bq_f; assumption) | (apply Tot.gb; all_goals intro hsp)) | ((conv => arg 2; arg 1; simp (disch := first | omega | assumption) only [qa2, ifb_false, qah, Option.map_some, qav, Kept_refl, qad, qaq, lenStr_str, List.take_length, List.length_cons, un_not, Bool.not_true, Bool.not_false, qai, qaj, qak, qaf, qam, qat, qab, qal, idxStr0, r84, s84]); (with_reducible first | apply Tot.of (qaa rfl) | apply Tot.gbl (b := true) | apply Tot.gbl (b := false) | apply Tot.bql (b := true) | apply Tot.bql (b := false) | apply Tot.gb_n | apply Tot.bq_n | (apply Tot.lss_f; omega) | (apply Tot.leq; all_goals intro hsp) | (apply Tot.sneq_f; first | assumption | decide | exact List.cons_ne_nil _ _))))
      all_goals (((try conv => arg 2; simp (disch := first | omega | assumption) only []); refine Tot.ret ?_); simp [*] <;> omega)
  | cons c t ih =>
    intro i ht
    have hl := drop_lt ht
    refine Tot.eq (Tot.iter ?_)
    conv => arg 2; arg 1; unfold f63_s0
    have hx := idxStr ht .i64
    (repeat' first | (with_reducible first | apply Tot.of (qaa rfl) | apply Tot.of (qag rfl) | apply Tot.of (qa0 rfl) | apply Tot.of (qac rfl) | apply Tot.of (st_bnelim rfl) | apply Tot.of (qaw rfl) | apply Tot.of (qa3 rfl) | apply Tot.of (qay rfl) | apply Tot.of (st_inr rfl) | apply Tot.of (st_bngk rfl) | apply Tot.of (qas rfl) | apply Tot.bql (b := true) | apply Tot.ift | apply Tot.iff | apply Tot.if_n | apply Tot.bq_n | (apply Tot.bq; all_goals intro hsp)) | ((conv => arg 2; arg 1; simp (disch := first | omega | assumption) only [qah, Option.map_some, qap, qan, qav, Kept_refl, qad, qaq, lenStr_str, List.take_length, un_not, qai, qaj, qak, qaf, qam, qat, qab, qal, r83, s83, hx]); (with_reducible first | apply Tot.of (qaa rfl) | apply Tot.of (st_guard rfl) | (apply Tot.lss_t; omega))))
    · (refine Tot.of_eq ?_; (conv => lhs; simp (disch := first | omega | assumption) only [qa1, shut_strD, List.take_length, List.map_nil, qai]); have := ih (i + 1) (drop_succ ht); simp only [List.all_cons, *, Bool.true_and]; exact this)
    · ((try conv => arg 2; simp (disch := first | omega | assumption) only []); refine Tot.ret ?_); simp [*]
theorem name_eq (s : Str) : (s.all letter && decide (s ≠ []) && decide (s.length ≤ 64) && !digit (s.headD 0) && decide ((s.headD 0).toNat ≠ 45)) = isName s := by
  cases s with
  | nil => rfl
  | cons c r =>
    unfold isName
    have e : decide ((c :: r).length ≤ 64) = decide (r.length < 64) := by
      simp only [List.length_cons, decide_eq_decide]; omega
    rw [e]
    simp only [List.headD_cons]
    cases (c :: r).all letter <;> cases decide (r.length < 64) <;> cases digit c <;> by_cases h : c.toNat = 45 <;> simp [h]
theorem s63 (s : Str) (hs : s.length < 4611686018427387904) (A : St) : f63 mL (Run Tryz.prog rxA) (Dcall Tryz.prog rxA) (.str s) A = some (.ret (.bool (isName s)), A) := by
  unfold f63
  refine Tot.eq ?_
  (repeat' first | (with_reducible first | apply Tot.of (st_it rfl)))
  refine Tot.of_eq ?_
  rw [← name_eq]
  exact s63_loop s hs A s 0 rfl
theorem s43_loop (s : Str) (hs : s.length < 4611686018427387904) (A : St) : ∀ (t : Str) (i : Nat), s.drop i = t → i ≤ s.length →
    iterK (f43_s0 mL (Run Tryz.prog rxA) (Dcall Tryz.prog rxA) A) (Env.mk (sp [(0, .str s), (21, .int .i64 (s.length : Nat)), (0, .int .i64 (i : Nat))] 8) []) A = some (.ret (.bool (t.all letter)), A) := by
  intro t
  induction t with
  | nil =>
    intro i ht _
    have hl := drop_len ht
    refine Tot.eq (Tot.iter ?_)
    conv => arg 2; arg 1; unfold f43_s0
    (repeat' first | (with_reducible first | apply Tot.of (qag rfl) | apply Tot.of (qa0 rfl) | apply Tot.of (qac rfl) | apply Tot.of (st_inr rfl) | apply Tot.of (qas rfl) | apply Tot.bql (b := false) | apply Tot.iff) | ((conv => arg 2; arg 1; simp (disch := first | omega | assumption) only [qah, Option.map_some, qav, Kept_refl, qad, qaq, List.take_length, qai, qaj, qak, qat, qab, qal]); (with_reducible first | apply Tot.of (qaa rfl) | (apply Tot.lss_f; omega))))
    all_goals (((try conv => arg 2; simp (disch := first | omega | assumption) only []); refine Tot.ret ?_); simp)
  | cons c t ih =>
    intro i ht _
    have hl := drop_lt ht
    refine Tot.eq (Tot.iter ?_)
    conv => arg 2; arg 1; unfold f43_s0
    have hx := idxStr ht .i64
    (repeat' first | (with_reducible first | apply Tot.of (qaa rfl) | apply Tot.of (qag rfl) | apply Tot.of (qa0 rfl) | apply Tot.of (qac rfl) | apply Tot.of (st_bnelim rfl) | apply Tot.of (qaw rfl) | apply Tot.of (qa3 rfl) | apply Tot.of (qay rfl) | apply Tot.of (st_inr rfl) | apply Tot.of (st_bngk rfl) | apply Tot.of (qas rfl) | apply Tot.bql (b := true) | apply Tot.ift | apply Tot.iff | apply Tot.if_n | apply Tot.bq_n | (apply Tot.bq; all_goals intro hsp)) | ((conv => arg 2; arg 1; simp (disch := first | omega | assumption) only [qah, Option.map_some, qap, qan, qav, Kept_refl, qad, qaq, List.take_length, un_not, qai, qaj, qak, qaf, qam, qat, qab, qal, r61, s61, hx]); (with_reducible first | apply Tot.of (qaa rfl) | apply Tot.of (st_guard rfl) | (apply Tot.lss_t; omega))))
    · (refine Tot.of_eq ?_; (conv => lhs; simp (disch := first | omega | assumption) only [qa1, shut_strD, List.take_length, List.map_nil, qai, qaj, qak]); have := ih (i + 1) (drop_succ ht) (by omega); simp only [List.all_cons, *, Bool.true_and]; exact this)
    · ((try conv => arg 2; simp (disch := first | omega | assumption) only []); refine Tot.ret ?_); simp [*]
theorem s43 (s : Str) (hs : s.length < 4611686018427387904) (A : St) : f43 mL (Run Tryz.prog rxA) (Dcall Tryz.prog rxA) (.str s) A = some (.ret (.bool (isName s)), A) := by
  unfold f43
  cases s with
  | nil =>
    refine Tot.eq ?_
    (repeat' first | (with_reducible first | apply Tot.of (qaa rfl) | apply Tot.of (qax rfl) | apply Tot.of (qac rfl) | apply Tot.of (qa3 rfl) | apply Tot.of (st_leave rfl) | apply Tot.gbl (b := true) | apply Tot.bql (b := true) | apply Tot.ift | apply Tot.iftf | (apply Tot.seql_t; first | assumption | with_reducible rfl)) | ((conv => arg 2; arg 1; simp (disch := first | omega | assumption) only [qa2]); (with_reducible first | apply Tot.gbl (b := true) | apply Tot.bql (b := true))))
    all_goals (((try conv => arg 2; simp (disch := first | omega | assumption) only [qah, qav, Kept_refl, qad, List.take_length, qat, qab, qal]); refine Tot.ret ?_); simp [isName])
  | cons c r =>
    have hl := s43_loop (c :: r) hs A (c :: r) 0 rfl (by simp)
    have e : isName (c :: r) = (decide (r.length < 64) && !digit c && decide (c.toNat ≠ 45) && (c :: r).all letter) := rfl
    simp only [List.length_cons] at hs
    refine Tot.eq ?_
    (repeat' first | (with_reducible first | apply Tot.of (qaa rfl) | apply Tot.of (qax rfl) | apply Tot.of (qac rfl) | apply Tot.of (qa3 rfl) | apply Tot.of (st_leave rfl) | apply Tot.of (st_it rfl) | apply Tot.gbl (b := true) | apply Tot.gbl (b := false) | apply Tot.bql (b := false) | apply Tot.ift | apply Tot.iff | apply Tot.iftf | apply Tot.ifff | (apply Tot.eql; all_goals intro hsp) | (apply Tot.seql_f; first | assumption | decide | exact List.cons_ne_nil _ _)) | ((conv => arg 2; arg 1; simp (disch := first | omega | assumption) only [qa2, ifb_false, lenStr_str, List.length_cons, qaf, qam, idxStr0, r60, s60]); (with_reducible first | apply Tot.of (qaa rfl) | apply Tot.gbl (b := true) | apply Tot.gbl (b := false) | apply Tot.bql (b := true) | apply Tot.bql (b := false) | (apply Tot.gtr; all_goals intro hsp) | (apply Tot.gb_t; assumption) | (apply Tot.gb_f; assumption) | (apply Tot.bq_t; assumption) | (apply Tot.bq_f; assumption) | (apply Tot.gb; all_goals intro hsp))))
    all_goals (by_cases h1 : r.length < 64 <;> by_cases h2 : c.toNat = 45)
    all_goals first
      | (exfalso; omega)
      | (((try conv => arg 2; simp (disch := first | omega | assumption) only [qah, qav, Kept_refl, qad, List.take_length, qat, qab, qal]); refine Tot.ret ?_); simp [e, *]; done)
      | (refine Tot.of_eq ?_
         rw [e]
         simp only [decide_eq_true h1, decide_eq_true h2, *, Bool.true_and, Bool.not_false, ne_eq, not_false_eq_true, decide_true]
         exact hl)
end Go.Vm.Rx

/- What the readers of one word come to. -/
namespace Go.Vm.Rx
open Go.Proofs P
set_option linter.unusedVariables false
set_option linter.unusedSimpArgs false
set_option maxRecDepth 10000
set_option maxHeartbeats 1000000
/-! next -/
/-! size -/
end Go.Vm.Rx

/- What the readers of lines come to. -/
namespace Go.Vm.Rx
open Go.Proofs P
set_option linter.unusedVariables false
set_option linter.unusedSimpArgs false
set_option maxRecDepth 10000
set_option maxHeartbeats 1000000
def cellsW (w : Word) : List D := [.str w.t, .int .i64 w.line, .int .i64 w.col]
def encW (w : Word) : D := .agg (cellsW w)
end Go.Vm.Rx

/- What the program's reader of a line comes to. -/
namespace Go.Vm.Rx
open Go.Proofs P
set_option linter.unusedVariables false
set_option linter.unusedSimpArgs false
set_option maxRecDepth 10000
set_option maxHeartbeats 1000000
end Go.Vm.Rx
