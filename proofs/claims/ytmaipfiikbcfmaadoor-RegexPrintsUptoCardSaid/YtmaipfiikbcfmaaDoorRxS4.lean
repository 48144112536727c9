/- RxS1, RxS2, RxS3, RxS4 in one text. -/
import Derived.Test.YtmaipfiikbcfmaaDoorRxF1
import Derived.Test.YtmaipfiikbcfmaaDoorRxF2
import Derived.Test.YtmaipfiikbcfmaaDoorRxF3
import Derived.Test.YtmaipfiikbcfmaaDoorVmSt2
import Derived.Test.YtmaipfiikbcfmaaDoorRxPure3
import Derived.Lib.Bytealg
set_option linter.all false
/- What the tests of bytes and names come to. -/
namespace Go.Vm.Rx
open Go.Proofs P
set_option linter.unusedVariables false
set_option linter.unusedSimpArgs false
set_option maxRecDepth 10000
set_option maxHeartbeats 1000000
theorem s99 (c : UInt8) (A : St) : f99 mL (Run Tryd.prog rxA) (Dcall Tryd.prog rxA) (.int .u8 (c.toNat : Int)) A = some (.ret (.bool (digit c)), A) := by
  unfold f99
  refine Tot.eq ?_
  (repeat' first | (with_reducible first | apply Tot.of (qaa rfl) | apply Tot.of (qay rfl) | apply Tot.of (qai rfl) | apply Tot.of (qaj rfl) | apply Tot.gbl (b := true) | apply Tot.gbl (b := false) | apply Tot.bql (b := true) | apply Tot.bql (b := false) | apply Tot.iftt | apply Tot.ifft | (apply Tot.leq; all_goals intro hsp) | (apply Tot.geq; all_goals intro hsp)))
  all_goals (((try conv => arg 2; simp (disch := first | omega | assumption) only [qas, qan, qad, qao, qak, qac, List.take_length, qal, qab, qae]); refine Tot.ret ?_); simp [digit]; omega)
theorem s84 (c : UInt8) (A : St) : f84 mL (Run Tryd.prog rxA) (Dcall Tryd.prog rxA) (.int .u8 (c.toNat : Int)) A = some (.ret (.bool (digit c)), A) := by
  unfold f84
  refine Tot.eq ?_
  (repeat' first | (with_reducible first | apply Tot.of (qaa rfl) | apply Tot.of (qay rfl) | apply Tot.of (qai rfl) | apply Tot.of (qaj rfl) | apply Tot.gbl (b := true) | apply Tot.gbl (b := false) | apply Tot.bql (b := true) | apply Tot.bql (b := false) | apply Tot.iftt | apply Tot.ifft | (apply Tot.leq; all_goals intro hsp) | (apply Tot.geq; all_goals intro hsp)))
  all_goals (((try conv => arg 2; simp (disch := first | omega | assumption) only [qas, qan, qad, qao, qak, qac, List.take_length, qal, qab, qae]); refine Tot.ret ?_); simp [digit]; omega)
theorem s95 (c : UInt8) (A : St) : f95 mL (Run Tryd.prog rxA) (Dcall Tryd.prog rxA) (.int .u8 (c.toNat : Int)) A = some (.ret (.bool (letter c)), A) := by
  unfold f95
  refine Tot.eq ?_
  (repeat' first | (with_reducible first | apply Tot.of (qaa rfl) | apply Tot.of (qay rfl) | apply Tot.of (qai rfl) | apply Tot.of (qat rfl) | apply Tot.of (qaj rfl) | apply Tot.gbl (b := true) | apply Tot.gbl (b := false) | apply Tot.gbn | apply Tot.bql (b := true) | apply Tot.bql (b := false) | apply Tot.iff | apply Tot.iftt | apply Tot.ifft | apply Tot.iftf | apply Tot.ifff | (apply Tot.leq_f; omega) | (apply Tot.leq; all_goals intro hsp) | (apply Tot.geq_t; omega) | (apply Tot.geq; all_goals intro hsp) | (apply Tot.eql_f; omega) | (apply Tot.eql; all_goals intro hsp)) | ((conv => arg 2; arg 1; simp (disch := first | omega | assumption) only [qas, qan, qaf, r99, s99]); (with_reducible first | apply Tot.of (qaa rfl) | apply Tot.gbl (b := true) | apply Tot.gbl (b := false) | apply Tot.bql (b := true) | apply Tot.bql (b := false) | (apply Tot.gb_t; assumption) | (apply Tot.gb_f; assumption) | (apply Tot.bq_t; assumption) | (apply Tot.bq_f; assumption) | (apply Tot.gb; all_goals intro hsp))))
  all_goals (((try conv => arg 2; simp (disch := first | omega | assumption) only [qas, qan, qad, qao, qak, qac, List.take_length, qal, qab, qae]); refine Tot.ret ?_); simp [letter, *] <;> omega)
/-- the or of a byte and 32 -/
def low (c : UInt8) : Nat := (c ||| 32).toNat
theorem or32 (n : Nat) (l : Bool) (c : UInt8) : binO .or n l (.int .u8 (c.toNat : Int)) (.int .u8 32) = some (.int .u8 ((low c : Nat) : Int)) := by
  rw [binO_or]
  revert c
  have h : ∀ c : Fin 256, IntKind.wrap .u8 (BitVec.ofInt IntKind.u8.bits (((UInt8.ofNat c.val).toNat : Nat) : Int) ||| BitVec.ofInt IntKind.u8.bits 32).toNat = ((low (UInt8.ofNat c.val) : Nat) : Int) := by decide +kernel
  intro c
  have := h ⟨c.toNat, c.toNat_lt⟩
  simp only [UInt8.ofNat_toNat] at this
  rw [this]
theorem low_letter (c : UInt8) : letter c = ((decide (97 ≤ low c ∧ low c ≤ 122)) || digit c || decide (c.toNat = 95) || decide (c.toNat = 45)) := by
  have h : ∀ c : Fin 256, letter (UInt8.ofNat c.val) = ((decide (97 ≤ low (UInt8.ofNat c.val) ∧ low (UInt8.ofNat c.val) ≤ 122)) || digit (UInt8.ofNat c.val) || decide ((UInt8.ofNat c.val).toNat = 95) || decide ((UInt8.ofNat c.val).toNat = 45)) := by decide +kernel
  have := h ⟨c.toNat, c.toNat_lt⟩
  simpa only [UInt8.ofNat_toNat] using this
theorem s85 (c : UInt8) (A : St) : f85 mL (Run Tryd.prog rxA) (Dcall Tryd.prog rxA) (.int .u8 (c.toNat : Int)) A = some (.ret (.bool (letter c)), A) := by
  unfold f85
  rw [low_letter]
  refine Tot.eq ?_
  (repeat' first | (with_reducible first | apply Tot.of (qaa rfl) | apply Tot.of (qay rfl) | apply Tot.of (qai rfl) | apply Tot.of (qat rfl) | apply Tot.of (qaj rfl) | apply Tot.gbl (b := true) | apply Tot.gbl (b := false) | apply Tot.bql (b := true) | apply Tot.bql (b := false) | apply Tot.iftt | apply Tot.ifft | apply Tot.iftf | apply Tot.ifff | (apply Tot.leq; all_goals intro hsp) | (apply Tot.geq; all_goals intro hsp) | (apply Tot.eql; all_goals intro hsp)) | ((conv => arg 2; arg 1; simp (disch := first | omega | assumption) only [qas, qan, qaf, r84, s84, or32]); (with_reducible first | apply Tot.of (qaa rfl) | apply Tot.gbl (b := true) | apply Tot.gbl (b := false) | apply Tot.bql (b := true) | apply Tot.bql (b := false) | (apply Tot.gb_t; assumption) | (apply Tot.gb_f; assumption) | (apply Tot.bq_t; assumption) | (apply Tot.bq_f; assumption) | (apply Tot.gb; all_goals intro hsp))))
  all_goals (((try conv => arg 2; simp (disch := first | omega | assumption) only [qas, qan, qad, qao, qak, qac, List.take_length, qal, qab, qae]); refine Tot.ret ?_); simp [*] <;> omega)
theorem s80_loop (s : Str) (hs : s.length < 4611686018427387904) (A : St) : ∀ (t : Str) (i : Nat), s.drop i = t →
    iterK (f80_s0 mL (Run Tryd.prog rxA) (Dcall Tryd.prog rxA) A) (Env.mk (sp [(0, .str s), (2, .int .i64 (i : Nat))] 29) []) A = some (.ret (.bool (t.all letter && decide (s ≠ []) && decide (s.length ≤ 64) && !digit (s.headD 0) && decide ((s.headD 0).toNat ≠ 45))), A) := by
  intro t
  induction t with
  | nil =>
    intro i ht
    have hl := drop_len ht
    refine Tot.eq (Tot.iter ?_)
    conv => arg 2; arg 1; unfold f80_s0
    cases s with
    | nil =>
      (repeat' first | (with_reducible first | apply Tot.of (qaa rfl) | apply Tot.of (qau rfl) | apply Tot.of (qa9 rfl) | apply Tot.of (qay rfl) | apply Tot.of (qai rfl) | apply Tot.of (qa0 rfl) | apply Tot.of (qat rfl) | apply Tot.of (st_inr rfl) | apply Tot.of (qav rfl) | apply Tot.gbl (b := false) | apply Tot.bql (b := false) | apply Tot.iff | apply Tot.ifft) | ((conv => arg 2; arg 1; simp (disch := first | omega | assumption) only [qan, qad, Option.map_some, qao, qak, qac, qap, lenStr_str, List.take_length, List.length_nil, qa2, sp_gs, qbe, qal, qab, qae]); (with_reducible first | apply Tot.of (qaa rfl) | apply Tot.gbl (b := false) | apply Tot.bql (b := false) | (apply Tot.lss_f; omega) | (apply Tot.sneq_t; first | assumption | with_reducible rfl))))
      all_goals (((try conv => arg 2; simp (disch := first | omega | assumption) only []); refine Tot.ret ?_); simp)
    | cons c r =>
      simp only [List.length_cons] at hs hl
      (repeat' first | (with_reducible first | apply Tot.of (qaa rfl) | apply Tot.of (qau rfl) | apply Tot.of (qa9 rfl) | apply Tot.of (qay rfl) | apply Tot.of (qai rfl) | apply Tot.of (qa0 rfl) | apply Tot.of (qat rfl) | apply Tot.of (st_inr rfl) | apply Tot.of (qav rfl) | apply Tot.gbl (b := true) | apply Tot.gbl (b := false) | apply Tot.bql (b := true) | apply Tot.bql (b := false) | apply Tot.iff | apply Tot.iftt | apply Tot.ifft | apply Tot.if_n | (apply Tot.neq; all_goals intro hsp) | (apply Tot.gb_t; assumption) | (apply Tot.gb_f; assumption) | (apply Tot.bq_t; assumption) | (apply Tot.bq_f; assumption) | (apply Tot.gb; all_goals intro hsp)) | ((conv => arg 2; arg 1; simp (disch := first | omega | assumption) only [qas, qan, qad, Option.map_some, qao, qak, qac, qap, lenStr_str, List.take_length, List.length_cons, un_not, Bool.not_true, Bool.not_false, qa2, sp_gs, qbe, qah, qaf, qal, qab, qae, idxStr0, r99, s99]); (with_reducible first | apply Tot.of (qaa rfl) | apply Tot.gbl (b := true) | apply Tot.gbl (b := false) | apply Tot.bql (b := true) | apply Tot.bql (b := false) | apply Tot.gb_n | apply Tot.bq_n | (apply Tot.lss_f; omega) | (apply Tot.leq; all_goals intro hsp) | (apply Tot.sneq_f; first | assumption | decide | exact List.cons_ne_nil _ _))))
      all_goals (((try conv => arg 2; simp (disch := first | omega | assumption) only []); refine Tot.ret ?_); simp [*] <;> omega)
  | cons c t ih =>
    intro i ht
    have hl := drop_lt ht
    refine Tot.eq (Tot.iter ?_)
    conv => arg 2; arg 1; unfold f80_s0
    have hx := idxStr ht .i64
    (repeat' first | (with_reducible first | apply Tot.of (qaa rfl) | apply Tot.of (qau rfl) | apply Tot.of (qa9 rfl) | apply Tot.of (qai rfl) | apply Tot.of (qa0 rfl) | apply Tot.of (qbd rfl) | apply Tot.of (qat rfl) | apply Tot.of (st_inl rfl) | apply Tot.of (st_inr rfl) | apply Tot.of (st_bngk rfl) | apply Tot.of (qav rfl) | apply Tot.bql (b := true) | apply Tot.ift | apply Tot.iff | apply Tot.if_n | apply Tot.bq_n | (apply Tot.bq; all_goals intro hsp)) | ((conv => arg 2; arg 1; simp (disch := first | omega | assumption) only [qad, Option.map_some, qbb, qa3, qao, qak, qac, qap, lenStr_str, List.take_length, un_not, qa2, sp_gs, qbe, qah, qaf, qal, qab, qae, r95, s95, hx]); (with_reducible first | apply Tot.of (qaa rfl) | apply Tot.of (st_guard rfl) | (apply Tot.lss_t; omega))))
    · (refine Tot.of_eq ?_; (conv => lhs; simp (disch := first | omega | assumption) only [qam, shut_strD, List.take_length, List.map_nil, qa2]); have := ih (i + 1) (qba ht); simp only [List.all_cons, *, Bool.true_and]; exact this)
    · ((try conv => arg 2; simp (disch := first | omega | assumption) only []); refine Tot.ret ?_); simp [*]
theorem name_eq (s : Str) : (s.all letter && decide (s ≠ []) && decide (s.length ≤ 64) && !digit (s.headD 0) && decide ((s.headD 0).toNat ≠ 45)) = isName s := by
  cases s with
  | nil => rfl
  | cons c r =>
    unfold isName
    have e : decide ((c :: r).length ≤ 64) = decide (r.length < 64) := by
      simp only [List.length_cons, decide_eq_decide]; omega
    rw [e]
    simp only [List.headD_cons]
    cases (c :: r).all letter <;> cases decide (r.length < 64) <;> cases digit c <;> by_cases h : c.toNat = 45 <;> simp [h]
theorem s80 (s : Str) (hs : s.length < 4611686018427387904) (A : St) : f80 mL (Run Tryd.prog rxA) (Dcall Tryd.prog rxA) (.str s) A = some (.ret (.bool (isName s)), A) := by
  unfold f80
  refine Tot.eq ?_
  (repeat' first | (with_reducible first | apply Tot.of (st_it rfl)))
  refine Tot.of_eq ?_
  rw [← name_eq]
  exact s80_loop s hs A s 0 rfl
theorem s63_loop (s : Str) (hs : s.length < 4611686018427387904) (A : St) : ∀ (t : Str) (i : Nat), s.drop i = t → i ≤ s.length →
    iterK (f63_s0 mL (Run Tryd.prog rxA) (Dcall Tryd.prog rxA) A) (Env.mk (sp [(0, .str s), (21, .int .i64 (s.length : Nat)), (0, .int .i64 (i : Nat))] 8) []) A = some (.ret (.bool (t.all letter)), A) := by
  intro t
  induction t with
  | nil =>
    intro i ht _
    have hl := drop_len ht
    refine Tot.eq (Tot.iter ?_)
    conv => arg 2; arg 1; unfold f63_s0
    (repeat' first | (with_reducible first | apply Tot.of (qau rfl) | apply Tot.of (qa9 rfl) | apply Tot.of (qai rfl) | apply Tot.of (st_inr rfl) | apply Tot.of (qav rfl) | apply Tot.bql (b := false) | apply Tot.iff) | ((conv => arg 2; arg 1; simp (disch := first | omega | assumption) only [qad, Option.map_some, qao, qak, qac, qap, List.take_length, qa2, sp_gs, qbe, qal, qab, qae]); (with_reducible first | apply Tot.of (qaa rfl) | (apply Tot.lss_f; omega))))
    all_goals (((try conv => arg 2; simp (disch := first | omega | assumption) only []); refine Tot.ret ?_); simp)
  | cons c t ih =>
    intro i ht _
    have hl := drop_lt ht
    refine Tot.eq (Tot.iter ?_)
    conv => arg 2; arg 1; unfold f63_s0
    have hx := idxStr ht .i64
    (repeat' first | (with_reducible first | apply Tot.of (qaa rfl) | apply Tot.of (qau rfl) | apply Tot.of (qa9 rfl) | apply Tot.of (qai rfl) | apply Tot.of (qa0 rfl) | apply Tot.of (qbd rfl) | apply Tot.of (qat rfl) | apply Tot.of (st_inl rfl) | apply Tot.of (st_inr rfl) | apply Tot.of (st_bngk rfl) | apply Tot.of (qav rfl) | apply Tot.bql (b := true) | apply Tot.ift | apply Tot.iff | apply Tot.if_n | apply Tot.bq_n | (apply Tot.bq; all_goals intro hsp)) | ((conv => arg 2; arg 1; simp (disch := first | omega | assumption) only [qad, Option.map_some, qbb, qa3, qao, qak, qac, qap, List.take_length, un_not, qa2, sp_gs, qbe, qah, qaf, qal, qab, qae, r85, s85, hx]); (with_reducible first | apply Tot.of (qaa rfl) | apply Tot.of (st_guard rfl) | (apply Tot.lss_t; omega))))
    · (refine Tot.of_eq ?_; (conv => lhs; simp (disch := first | omega | assumption) only [qam, shut_strD, List.take_length, List.map_nil, qa2, sp_gs, qbe]); have := ih (i + 1) (qba ht) (by omega); simp only [List.all_cons, *, Bool.true_and]; exact this)
    · ((try conv => arg 2; simp (disch := first | omega | assumption) only []); refine Tot.ret ?_); simp [*]
theorem s63 (s : Str) (hs : s.length < 4611686018427387904) (A : St) : f63 mL (Run Tryd.prog rxA) (Dcall Tryd.prog rxA) (.str s) A = some (.ret (.bool (isName s)), A) := by
  unfold f63
  cases s with
  | nil =>
    refine Tot.eq ?_
    (repeat' first | (with_reducible first | apply Tot.of (qaa rfl) | apply Tot.of (qay rfl) | apply Tot.of (qai rfl) | apply Tot.of (qat rfl) | apply Tot.of (qaj rfl) | apply Tot.gbl (b := true) | apply Tot.bql (b := true) | apply Tot.ift | apply Tot.iftf | (apply Tot.seql_t; first | assumption | with_reducible rfl)) | ((conv => arg 2; arg 1; simp (disch := first | omega | assumption) only [qas]); (with_reducible first | apply Tot.gbl (b := true) | apply Tot.bql (b := true))))
    all_goals (((try conv => arg 2; simp (disch := first | omega | assumption) only [qad, qao, qak, qac, List.take_length, qal, qab, qae]); refine Tot.ret ?_); simp [isName])
  | cons c r =>
    have hl := s63_loop (c :: r) hs A (c :: r) 0 rfl (by simp)
    have e : isName (c :: r) = (decide (r.length < 64) && !digit c && decide (c.toNat ≠ 45) && (c :: r).all letter) := rfl
    simp only [List.length_cons] at hs
    refine Tot.eq ?_
    (repeat' first | (with_reducible first | apply Tot.of (qaa rfl) | apply Tot.of (qay rfl) | apply Tot.of (qai rfl) | apply Tot.of (qat rfl) | apply Tot.of (qaj rfl) | apply Tot.of (st_it rfl) | apply Tot.gbl (b := true) | apply Tot.gbl (b := false) | apply Tot.bql (b := false) | apply Tot.ift | apply Tot.iff | apply Tot.iftf | apply Tot.ifff | (apply Tot.eql; all_goals intro hsp) | (apply Tot.seql_f; first | assumption | decide | exact List.cons_ne_nil _ _)) | ((conv => arg 2; arg 1; simp (disch := first | omega | assumption) only [qas, qan, lenStr_str, List.length_cons, qah, qaf, idxStr0, r84, s84]); (with_reducible first | apply Tot.of (qaa rfl) | apply Tot.gbl (b := true) | apply Tot.gbl (b := false) | apply Tot.bql (b := true) | apply Tot.bql (b := false) | (apply Tot.gtr; all_goals intro hsp) | (apply Tot.gb_t; assumption) | (apply Tot.gb_f; assumption) | (apply Tot.bq_t; assumption) | (apply Tot.bq_f; assumption) | (apply Tot.gb; all_goals intro hsp))))
    all_goals (by_cases h1 : r.length < 64 <;> by_cases h2 : c.toNat = 45)
    all_goals first
      | (exfalso; omega)
      | (((try conv => arg 2; simp (disch := first | omega | assumption) only [qad, qao, qak, qac, List.take_length, qal, qab, qae]); refine Tot.ret ?_); simp [e, *]; done)
      | (refine Tot.of_eq ?_
         rw [e]
         simp only [decide_eq_true h1, decide_eq_true h2, *, Bool.true_and, Bool.not_false, ne_eq, not_false_eq_true, decide_true]
         exact hl)
end Go.Vm.Rx

/- What the readers of one word come to. -/
namespace Go.Vm.Rx
open Go.Proofs P
set_option linter.unusedVariables false
set_option linter.unusedSimpArgs false
set_option maxRecDepth 10000
set_option maxHeartbeats 1000000
theorem s93 (s : Str) (A : St) : f93 mL (Run Tryd.prog rxA) (Dcall Tryd.prog rxA) (.str s) A = some (.ret (.bool (pair s)), A) := by
  unfold f93
  refine Tot.eq ?_
  (repeat' first | (with_reducible first | apply Tot.of (qaa rfl) | apply Tot.of (qay rfl) | apply Tot.of (qai rfl) | apply Tot.of (qaj rfl) | apply Tot.gbl (b := true) | apply Tot.gbl (b := false) | apply Tot.bql (b := true) | apply Tot.bql (b := false) | apply Tot.iftf | apply Tot.ifff | (apply Tot.seql; all_goals intro hsp)) | ((conv => arg 2; arg 1; simp (disch := first | omega | assumption) only [qas, qan]); (with_reducible first | apply Tot.gbl (b := true) | apply Tot.gbl (b := false) | apply Tot.bql (b := true) | apply Tot.bql (b := false))))
  all_goals (((try conv => arg 2; simp (disch := first | omega | assumption) only [qas, qan, qad, qao, qak, qac, List.take_length, qal, qab, qae]); refine Tot.ret ?_); simp [pair, *])
theorem s90 (s : Str) (A : St) : f90 mL (Run Tryd.prog rxA) (Dcall Tryd.prog rxA) (.str s) A = some (.ret (.bool (pair s)), A) := by
  unfold f90
  refine Tot.eq ?_
  (repeat' first | (with_reducible first | apply Tot.of (qaa rfl) | apply Tot.of (qay rfl) | apply Tot.of (qai rfl) | apply Tot.of (qaj rfl) | apply Tot.gbl (b := true) | apply Tot.gbl (b := false) | apply Tot.bql (b := true) | apply Tot.bql (b := false) | apply Tot.iftf | apply Tot.ifff | (apply Tot.seql; all_goals intro hsp)) | ((conv => arg 2; arg 1; simp (disch := first | omega | assumption) only [qas, qan]); (with_reducible first | apply Tot.gbl (b := true) | apply Tot.gbl (b := false) | apply Tot.bql (b := true) | apply Tot.bql (b := false))))
  all_goals (((try conv => arg 2; simp (disch := first | omega | assumption) only [qas, qan, qad, qao, qak, qac, List.take_length, qal, qab, qae]); refine Tot.ret ?_); simp [pair, *])
theorem s94_loop (c : UInt8) (A : St) : ∀ (t : Str) (i : Nat), singles.drop i = t → i ≤ 12 →
    iterK (f94_s0 mL (Run Tryd.prog rxA) (Dcall Tryd.prog rxA) A) (Env.mk (sp [(0, .int .u8 (c.toNat : Int)), (2, .int .i64 (i : Nat))] 8) []) A = some (.ret (.bool (t.contains c)), A) := by
  intro t
  induction t with
  | nil =>
    intro i ht _
    have hl := drop_len ht
    have e : singles.length = 12 := rfl
    refine Tot.eq (Tot.iter ?_)
    conv => arg 2; arg 1; unfold f94_s0
    (repeat' first | (with_reducible first | apply Tot.of (qau rfl) | apply Tot.of (qa9 rfl) | apply Tot.of (qai rfl) | apply Tot.of (st_inr rfl) | apply Tot.of (qav rfl) | apply Tot.bql (b := false) | apply Tot.iff) | ((conv => arg 2; arg 1; simp (disch := first | omega | assumption) only [qad, Option.map_some, qao, qak, qac, qap, List.take_length, qa2, sp_gs, qbe, qah, qal, qab, qae]); (with_reducible first | apply Tot.of (qaa rfl) | (apply Tot.lss_f; omega))))
    all_goals (((try conv => arg 2; simp (disch := first | omega | assumption) only []); refine Tot.ret ?_); simp)
  | cons d t ih =>
    intro i ht _
    have hl := drop_lt ht
    have e : singles.length = 12 := rfl
    have hx := idxStr ht .i64
    unfold singles at hx
    refine Tot.eq (Tot.iter ?_)
    conv => arg 2; arg 1; unfold f94_s0
    (repeat' first | (with_reducible first | apply Tot.of (qaa rfl) | apply Tot.of (qau rfl) | apply Tot.of (qa9 rfl) | apply Tot.of (qai rfl) | apply Tot.of (qbd rfl) | apply Tot.of (st_inl rfl) | apply Tot.of (st_inr rfl) | apply Tot.of (st_bngk rfl) | apply Tot.of (qav rfl) | apply Tot.bql (b := true) | apply Tot.bql (b := false) | apply Tot.ift | apply Tot.iff) | ((conv => arg 2; arg 1; simp (disch := first | omega | assumption) only [qad, Option.map_some, qbb, qa3, qao, qak, qac, qap, List.take_length, qa2, sp_gs, qbe, qah, qal, qab, qae, hx]); (with_reducible first | apply Tot.of (qaa rfl) | apply Tot.of (st_guard rfl) | (apply Tot.lss_t; omega) | (apply Tot.eql; all_goals intro hsp))))
    · ((try conv => arg 2; simp (disch := first | omega | assumption) only []); refine Tot.ret ?_)
      have : c = d := by apply UInt8.toNat_inj.1; omega
      simp [this]
    · (refine Tot.of_eq ?_; (conv => lhs; simp (disch := first | omega | assumption) only [qam, List.take_length, List.map_nil, qa2]); have := ih (i + 1) (qba ht) (by omega); have hne : ¬ c = d := (by rintro rfl; omega); have e2 : (d :: t).contains c = t.contains c := (by simp [hne]); rw [e2]; exact this)
theorem s94 (c : UInt8) (A : St) : f94 mL (Run Tryd.prog rxA) (Dcall Tryd.prog rxA) (.int .u8 (c.toNat : Int)) A = some (.ret (.bool (single c)), A) := by
  unfold f94
  exact s94_loop c A singles 0 rfl (by omega)
theorem s108 (s : Str) (c : UInt8) (A : St) : Run Tryd.prog rxA 108 [.str s, .int .u8 (c.toNat : Int)] A = some (.ret (.int .i64 (Lib.indexByte s c)), A) := by
  rw [Run_ext _ _ (by decide) rfl]
  simp [indexByteX]
theorem s102 (s : Str) (c : UInt8) (A : St) : f102 mL (Run Tryd.prog rxA) (Dcall Tryd.prog rxA) (.str s) (.int .u8 (c.toNat : Int)) A = some (.ret (.int .i64 (Lib.indexByte s c)), A) := by
  unfold f102
  refine Tot.eq ?_
  (repeat' first | (with_reducible first | apply Tot.of (qat rfl) | apply Tot.of (qaj rfl)) | ((conv => arg 2; arg 1; simp (disch := first | omega | assumption) only [s108]); (with_reducible first | apply Tot.of (qaa rfl))))
  all_goals (((try conv => arg 2; simp (disch := first | omega | assumption) only [qad, qam, qak, qac, List.take_length, qaf, qab, qae]); refine Tot.ret ?_); rfl)
theorem s91 (s : Str) (c : UInt8) (A : St) : f91 mL (Run Tryd.prog rxA) (Dcall Tryd.prog rxA) (.str s) (.int .u8 (c.toNat : Int)) A = some (.ret (.int .i64 (Lib.indexByte s c)), A) := by
  unfold f91
  refine Tot.eq ?_
  (repeat' first | (with_reducible first | apply Tot.of (qat rfl) | apply Tot.of (qaj rfl)) | ((conv => arg 2; arg 1; simp (disch := first | omega | assumption) only [qaf, qaw, r102, s102]); (with_reducible first | apply Tot.of (qaa rfl))))
  all_goals (((try conv => arg 2; simp (disch := first | omega | assumption) only [qad, qam, qak, qac, List.take_length, qaf, qab, qae]); refine Tot.ret ?_); rfl)
theorem idx_low (s : Str) (c : UInt8) : -1 ≤ Lib.indexByte s c := by
  induction s with
  | nil => simp [Lib.indexByte]
  | cons b l ih =>
    unfold Lib.indexByte
    split
    · omega
    · split
      · omega
      · omega
theorem idx_contains (s : Str) (c : UInt8) : s.contains c = decide (0 ≤ Lib.indexByte s c) := by
  induction s with
  | nil => simp [Lib.indexByte]
  | cons b l ih =>
    have := idx_low l c
    unfold Lib.indexByte
    by_cases h : b = c
    · subst h; simp
    · have h' : ¬ c = b := fun e => h e.symm
      simp only [List.contains_cons, ih]
      have e1 : (c == b) = false := by simp [h']
      have e2 : (b == c) = false := by simp [h]
      rw [e1, e2]
      simp only [Bool.false_or, Bool.false_eq_true, if_false]
      split
      · rename_i h1
        have : Lib.indexByte l c = -1 := by simpa using h1
        rw [this]
      · congr 1
        rename_i h1
        have : ¬ Lib.indexByte l c = -1 := by simpa using h1
        apply propext
        omega
theorem take_pre (s p : Str) (h : p.length ≤ s.length) : (s.take p.length = p) ↔ p.isPrefixOf s = true := by
  rw [List.isPrefixOf_iff_prefix]
  constructor
  · intro e; rw [← e]; exact List.take_prefix _ _
  · rintro ⟨t, rfl⟩; simp
theorem s103 (s p : Str) (hs : s.length < 4611686018427387904) (A : St) : f103 mL (Run Tryd.prog rxA) (Dcall Tryd.prog rxA) (.str s) (.str p) A = some (.ret (.bool (p.isPrefixOf s)), A) := by
  unfold f103
  refine Tot.eq ?_
  (repeat' first | (with_reducible first | apply Tot.of (qaa rfl) | apply Tot.of (qay rfl) | apply Tot.of (qai rfl) | apply Tot.of (qaj rfl) | apply Tot.gbl (b := true) | apply Tot.gbl (b := false) | apply Tot.bql (b := true) | apply Tot.bql (b := false) | apply Tot.iftt | apply Tot.ifft | (apply Tot.geq; all_goals intro hsp) | (apply Tot.seql; all_goals intro hsp)) | ((conv => arg 2; arg 1; simp (disch := first | omega | assumption) only [lenStr_str, Int.toNat_natCast, slStr_to]); (with_reducible first | apply Tot.of (qaa rfl))))
  · ((try conv => arg 2; simp (disch := first | omega | assumption) only [qas, qad, qao, qak, qac, List.take_length, qal, qab, qae]); refine Tot.ret ?_)
    have := (take_pre s p (by omega)).1 (by assumption)
    simp [this]
  · ((try conv => arg 2; simp (disch := first | omega | assumption) only [qas, qad, qao, qak, qac, List.take_length, qal, qab, qae]); refine Tot.ret ?_)
    have : ¬ p.isPrefixOf s = true := fun h => absurd ((take_pre s p (by omega)).2 h) (by assumption)
    simp only [Bool.not_eq_true] at this
    simp [this]
  · ((try conv => arg 2; simp (disch := first | omega | assumption) only [qan, qad, qao, qak, qac, List.take_length, qal, qab, qae]); refine Tot.ret ?_)
    have : ¬ p.isPrefixOf s = true := by
      rw [List.isPrefixOf_iff_prefix]
      intro h
      have := h.length_le
      omega
    simp only [Bool.not_eq_true] at this
    simp [this]
theorem s92 (s p : Str) (hs : s.length < 4611686018427387904) (A : St) : f92 mL (Run Tryd.prog rxA) (Dcall Tryd.prog rxA) (.str s) (.str p) A = some (.ret (.bool (p.isPrefixOf s)), A) := by
  unfold f92
  refine Tot.eq ?_
  (repeat' first | (with_reducible first | apply Tot.of (qat rfl) | apply Tot.of (qaj rfl)) | ((conv => arg 2; arg 1; simp (disch := first | omega | assumption) only [qaw, r103, s103]); (with_reducible first | apply Tot.of (qaa rfl))))
  all_goals (((try conv => arg 2; simp (disch := first | omega | assumption) only [qad, qao, qak, qac, List.take_length, qal, qab, qae]); refine Tot.ret ?_); rfl)
theorem wlen_cons (c : UInt8) (r : Str) : wlen (c :: r) = if decide (1 ≤ r.length) && pair ((c :: r).take 2) then 2 else if single c then 1 else run (c :: r) := rfl
theorem wlen_pair {c : UInt8} {t : Str} (h : 1 ≤ t.length) (h2 : pair ((c :: t).take 2) = true) : wlen (c :: t) = 2 := by
  rw [wlen_cons, h2, decide_eq_true h]; rfl
theorem wlen_np {c : UInt8} {t : Str} (h : t.length < 1 ∨ pair ((c :: t).take 2) = false) : wlen (c :: t) = if single c then 1 else run (c :: t) := by
  rw [wlen_cons]
  rcases h with h | h
  · rw [decide_eq_false (by omega)]; rfl
  · rw [h, Bool.and_false]; rfl
theorem wlen_single {c : UInt8} {t : Str} (h : t.length < 1 ∨ pair ((c :: t).take 2) = false) (h2 : single c = true) : wlen (c :: t) = 1 := by rw [wlen_np h, h2]; rfl
theorem wlen_run {c : UInt8} {t : Str} (h : t.length < 1 ∨ pair ((c :: t).take 2) = false) (h2 : single c = false) : wlen (c :: t) = run (c :: t) := by rw [wlen_np h, h2]; rfl
/-! next -/
theorem pre2 (c : UInt8) (t : Str) : [45, 62].isPrefixOf (c :: t) = ((c :: t).take 2 == [45, 62]) := by
  cases t with
  | nil => simp [List.isPrefixOf]
  | cons d t =>
    simp only [List.isPrefixOf, List.take_succ_cons, List.take_zero]
    rw [show ((45 : UInt8) == c) = (c == 45) from BEq.comm, show ((62 : UInt8) == d) = (d == 62) from BEq.comm]
    rfl
theorem s69_loop (s : Str) (hs : s.length < 4611686018427387904) (a : Nat) (A : St) : ∀ (t : Str) (n : Nat), s.drop n = t → a ≤ n → n ≤ s.length →
    iterK (f69_s0 mL (Run Tryd.prog rxA) (Dcall Tryd.prog rxA) A) (Env.mk (sp [(0, .str s), (0, .int .i64 (a : Nat)), (3, .int .i64 (n : Nat))] 49) []) A = some (.ret (.int .i64 ((n : Int) + (run t : Nat) - a)), A) := by
  intro t
  induction t with
  | nil =>
    intro n ht h1 h2
    have hl := drop_len ht
    refine Tot.eq (Tot.iter ?_)
    conv => arg 2; arg 1; unfold f69_s0
    (repeat' first | (with_reducible first | apply Tot.of (qaa rfl) | apply Tot.of (qau rfl) | apply Tot.of (qa9 rfl) | apply Tot.of (qay rfl) | apply Tot.of (qai rfl) | apply Tot.of (qa0 rfl) | apply Tot.of (qat rfl) | apply Tot.of (st_inr rfl) | apply Tot.of (qav rfl) | apply Tot.gbl (b := false) | apply Tot.gbn | apply Tot.bql (b := false) | apply Tot.iff | apply Tot.ifft) | ((conv => arg 2; arg 1; simp (disch := first | omega | assumption) only [qan, qad, Option.map_some, binO_sub, qa3, qam, qak, qac, qap, lenStr_str, List.take_length, qa2, sp_gs, qbe, qaf, qab, qae]); (with_reducible first | apply Tot.of (qaa rfl) | apply Tot.gbl (b := false) | apply Tot.bql (b := false) | (apply Tot.lss_f; omega))))
    all_goals (((try conv => arg 2; simp (disch := first | omega | assumption) only []); refine Tot.ret ?_); simp [run])
  | cons c t ih =>
    intro n ht h1 h2
    have hl := drop_lt ht
    have hx := idxStr ht .i64
    have hp := pre2 c t
    have hd : ∀ k : Nat, (s.take (n + k)).drop n = (c :: t).take k := fun k => by rw [List.drop_take, ht]; congr 1; omega
    refine Tot.eq (Tot.iter ?_)
    conv => arg 2; arg 1; unfold f69_s0
    (repeat' first | (with_reducible first | apply Tot.of (qaa rfl) | apply Tot.of (qau rfl) | apply Tot.of (qa9 rfl) | apply Tot.of (qay rfl) | apply Tot.of (qai rfl) | apply Tot.of (qa0 rfl) | apply Tot.of (qbd rfl) | apply Tot.of (qat rfl) | apply Tot.of (st_inl rfl) | apply Tot.of (st_inr rfl) | apply Tot.of (st_bngk rfl) | apply Tot.of (qav rfl) | apply Tot.gbl (b := true) | apply Tot.gbl (b := false) | apply Tot.gbn | apply Tot.bql (b := true) | apply Tot.bql (b := false) | apply Tot.ift | apply Tot.iff | apply Tot.iftt | apply Tot.ifft | (apply Tot.leq; all_goals intro hsp) | (apply Tot.seql; all_goals intro hsp)) | ((conv => arg 2; arg 1; simp (disch := first | omega | assumption) only [qas, qan, qad, Option.map_some, qbb, binO_sub, qa3, qam, qak, qac, qap, lenStr_str, List.take_length, un_not, Bool.not_true, Bool.not_false, qa2, sp_gs, qbe, qah, qaf, qab, qae, Int.toNat_natCast, toNat_a2, slStr_mid, r95, s95, hx]); (with_reducible first | apply Tot.of (qaa rfl) | apply Tot.of (st_guard rfl) | apply Tot.bql (b := true) | apply Tot.bql (b := false) | (apply Tot.lss_t; omega) | (apply Tot.gb_t; assumption) | (apply Tot.gb_f; assumption) | (apply Tot.bq_t; assumption) | (apply Tot.bq_f; assumption) | (apply Tot.gb; all_goals intro hsp))))
    · ((try conv => arg 2; simp (disch := first | omega | assumption) only []); refine Tot.ret ?_)
      rw [hd 2] at *
      have : [45, 62].isPrefixOf (c :: t) = true := by rw [hp]; simpa using ‹List.take 2 (c :: t) = [45, 62]›
      simp [run, this]
    · rw [hd 2] at *
      have e : [45, 62].isPrefixOf (c :: t) = false := by rw [hp]; simpa using ‹¬List.take 2 (c :: t) = [45, 62]›
      have e2 : run (c :: t) = run t + 1 := by simp [run, e, *]
      have := ih (n + 1) (qba ht) (by omega) (by omega)
      have e3 : ((n : Int) + ((run t + 1 : Nat) : Int) - a) = (((n + 1 : Nat) : Int) + (run t : Nat) - a) := by omega
      (refine Tot.of_eq ?_; (conv => lhs; simp (disch := first | omega | assumption) only [qam, shut_strD, List.take_length, List.map_nil, qa2, qbe]); rw [e2, e3]; exact this)
    · have hl2 := congrArg List.length ht
      simp only [List.length_drop, List.length_cons] at hl2
      have ht0 : t = [] := List.eq_nil_of_length_eq_zero (by omega)
      subst ht0
      have e2 : run [c] = run [] + 1 := by simp [run, List.isPrefixOf, *]
      have := ih (n + 1) (qba ht) (by omega) (by omega)
      have e3 : ((n : Int) + ((run [] + 1 : Nat) : Int) - a) = (((n + 1 : Nat) : Int) + (run [] : Nat) - a) := by omega
      (refine Tot.of_eq ?_; (conv => lhs; simp (disch := first | omega | assumption) only [qam, shut_strD, List.take_length, List.map_nil, qa2, qbe]); rw [e2, e3]; exact this)
    · ((try conv => arg 2; simp (disch := first | omega | assumption) only []); refine Tot.ret ?_)
      have e2 : run (c :: t) = 0 := by simp [run, *]
      rw [e2]
      simp
theorem s69 (s : Str) (hs : s.length < 4611686018427387904) (i : Nat) (c : UInt8) (t : Str) (ht : s.drop i = c :: t) (A : St) : f69 mL (Run Tryd.prog rxA) (Dcall Tryd.prog rxA) (.str s) (.int .i64 (i : Nat)) A = some (.ret (.int .i64 (wlen (c :: t) : Nat)), A) := by
  have hl := drop_lt ht
  have hx := idxStr ht .i64
  have hd : ∀ k : Nat, (s.take (i + k)).drop i = (c :: t).take k := fun k => by rw [List.drop_take, ht]; congr 1; omega
  have hl2 := congrArg List.length ht
  simp only [List.length_drop, List.length_cons] at hl2
  have hlo := s69_loop s hs i A (c :: t) i ht (by omega) (by omega)
  have e3 : ((i : Int) + (run (c :: t) : Nat) - i) = (run (c :: t) : Nat) := by omega
  rw [e3] at hlo
  unfold f69
  refine Tot.eq ?_
  (repeat' first | (with_reducible first | apply Tot.of (qaa rfl) | apply Tot.of (qay rfl) | apply Tot.of (qai rfl) | apply Tot.of (qat rfl) | apply Tot.of (qaj rfl) | apply Tot.of (st_it rfl) | apply Tot.gbl (b := true) | apply Tot.gbl (b := false) | apply Tot.bql (b := true) | apply Tot.bql (b := false) | apply Tot.ift | apply Tot.iff | apply Tot.iftt | apply Tot.ifft | (apply Tot.leq; all_goals intro hsp) | (apply Tot.bq; all_goals intro hsp)) | ((conv => arg 2; arg 1; simp (disch := first | omega | assumption) only [qas, qan, qbb, qa3, lenStr_str, qah, qaf, qaw, Int.toNat_natCast, toNat_a2, slStr_mid, r93, s93, r94, s94, hx, hd]); (with_reducible first | apply Tot.of (qaa rfl) | apply Tot.bql (b := false) | (apply Tot.bq; all_goals intro hsp))))
  · ((try conv => arg 2; simp (disch := first | omega | assumption) only [qad, qam, qak, qac, List.take_length, qah, qaf, qab, qae]); refine Tot.ret ?_)
    rw [wlen_pair (by omega) (by assumption)]; rfl
  · ((try conv => arg 2; simp (disch := first | omega | assumption) only [qad, qam, qak, qac, List.take_length, qah, qaf, qab, qae]); refine Tot.ret ?_)
    rw [wlen_single (.inr (by assumption)) (by assumption)]; rfl
  · rw [wlen_run (.inr (by assumption)) (by assumption)]
    (refine Tot.of_eq ?_; (conv => lhs; simp (disch := first | omega | assumption) only []); exact hlo)
  · ((try conv => arg 2; simp (disch := first | omega | assumption) only [qad, qam, qak, qac, List.take_length, qah, qaf, qab, qae]); refine Tot.ret ?_)
    rw [wlen_single (.inl (by omega)) (by assumption)]; rfl
  · rw [wlen_run (.inl (by omega)) (by assumption)]
    (refine Tot.of_eq ?_; (conv => lhs; simp (disch := first | omega | assumption) only []); exact hlo)
/-! size -/
theorem s68_loop (u : Str) (hs : u.length < 4611686018427387904) (A B : St) : ∀ (t : Str) (n : Nat), u.drop n = t → n ≤ u.length →
    iterK (f68_s0 mL (Run Tryd.prog rxA) (Dcall Tryd.prog rxA) A) (Env.mk (sp [(3, .str u), (0, .int .i64 (n : Nat))] 42) []) A = some (.ret (.int .i64 ((n : Int) + (run t : Nat))), A) := by
  intro t
  induction t with
  | nil =>
    intro n ht h2
    have hl := drop_len ht
    refine Tot.eq (Tot.iter ?_)
    conv => arg 2; arg 1; unfold f68_s0
    (repeat' first | (with_reducible first | apply Tot.of (qaa rfl) | apply Tot.of (qau rfl) | apply Tot.of (qa9 rfl) | apply Tot.of (qay rfl) | apply Tot.of (qai rfl) | apply Tot.of (qa0 rfl) | apply Tot.of (qat rfl) | apply Tot.of (st_inr rfl) | apply Tot.of (qav rfl) | apply Tot.gbl (b := false) | apply Tot.bql (b := false) | apply Tot.iff | apply Tot.ifft) | ((conv => arg 2; arg 1; simp (disch := first | omega | assumption) only [qan, qad, Option.map_some, qam, qak, qac, qap, lenStr_str, List.take_length, qa2, sp_gs, qbe, qaf, qab, qae]); (with_reducible first | apply Tot.of (qaa rfl) | apply Tot.gbl (b := false) | apply Tot.bql (b := false) | (apply Tot.lss_f; omega))))
    all_goals (((try conv => arg 2; simp (disch := first | omega | assumption) only []); refine Tot.ret ?_); simp [run])
  | cons c t ih =>
    intro n ht h2
    have hl := drop_lt ht
    have hx := idxStr ht .i64
    have hd : u.drop n = c :: t := ht
    have hpl : (u.drop n).length < 4611686018427387904 := by rw [List.length_drop]; omega
    refine Tot.eq (Tot.iter ?_)
    conv => arg 2; arg 1; unfold f68_s0
    (repeat' first | (with_reducible first | apply Tot.of (qaa rfl) | apply Tot.of (qau rfl) | apply Tot.of (qa9 rfl) | apply Tot.of (qay rfl) | apply Tot.of (qai rfl) | apply Tot.of (qa0 rfl) | apply Tot.of (qbd rfl) | apply Tot.of (qat rfl) | apply Tot.of (st_inl rfl) | apply Tot.of (st_inr rfl) | apply Tot.of (st_bngk rfl) | apply Tot.of (qav rfl) | apply Tot.gbl (b := true) | apply Tot.gbl (b := false) | apply Tot.bql (b := true) | apply Tot.ift | apply Tot.iff | apply Tot.iftt | apply Tot.ifft | apply Tot.if_n | (apply Tot.bq; all_goals intro hsp)) | ((conv => arg 2; arg 1; simp (disch := first | omega | assumption) only [qas, qan, qad, Option.map_some, qbb, qa3, qam, qak, qac, qap, lenStr_str, List.take_length, un_not, qa2, sp_gs, qbe, qah, qaf, qaw, qab, qae, Int.toNat_natCast, slStr_from, r85, s85, hx, r92, s92]); (with_reducible first | apply Tot.of (qaa rfl) | apply Tot.of (st_guard rfl) | apply Tot.bql (b := false) | apply Tot.bq_n | (apply Tot.lss_t; omega) | (apply Tot.gb_t; assumption) | (apply Tot.gb_f; assumption) | (apply Tot.bq_t; assumption) | (apply Tot.bq_f; assumption) | (apply Tot.gb; all_goals intro hsp))))
    · ((try conv => arg 2; simp (disch := first | omega | assumption) only []); refine Tot.ret ?_)
      rw [hd] at *
      have : run (c :: t) = 0 := by simp [run, *]
      rw [this]; simp
    · rw [hd] at *
      have e2 : run (c :: t) = run t + 1 := by simp [run, *]
      have := ih (n + 1) (qba ht) (by omega)
      have e3 : ((n : Int) + ((run t + 1 : Nat) : Int)) = (((n + 1 : Nat) : Int) + (run t : Nat)) := by omega
      (refine Tot.of_eq ?_; (conv => lhs; simp (disch := first | omega | assumption) only [qam, shut_strD, List.take_length, List.map_nil, qa2, sp_gs]); rw [e2, e3]; exact this)
    · ((try conv => arg 2; simp (disch := first | omega | assumption) only []); refine Tot.ret ?_)
      have : run (c :: t) = 0 := by simp [run, *]
      rw [this]; simp
/-- a reader's cells -/
def rcells (line at_ : Int) (s : Str) (o : D) : List D := [.int .i64 line, .int .i64 at_, .str s, o]
theorem s68 (k : Nat) (line : Int) (s : Str) (o : D) (hs : s.length < 4611686018427387904) (i : Nat) (c : UInt8) (t : Str) (ht : s.drop i = c :: t) (A : St) (hk : k < A.length) :
    f68 mL (Run Tryd.prog rxA) (Dcall Tryd.prog rxA) (.ref k 0) (st A k (rcells line i s o)) = some (.ret (.int .i64 (wlen (c :: t) : Nat)), st A k (rcells line i s o)) := by
  have hl := drop_lt ht
  have hl2 := congrArg List.length ht
  simp only [List.length_drop, List.length_cons] at hl2
  have hlo := fun B => s68_loop (c :: t) (by simp only [List.length_cons]; omega) B B (c :: t) 0 rfl (by omega)
  have e3 : (((0 : Nat) : Int) + (run (c :: t) : Nat)) = (run (c :: t) : Nat) := by omega
  simp only [e3] at hlo
  have hsi : ∀ x : Int, decide (x ≥ 0) = decide (0 ≤ x) := fun x => rfl
  have hsl : single c = decide (0 ≤ Lib.indexByte [40, 41, 44, 124, 42, 43, 63, 46, 36, 61, 60, 62] c) := idx_contains singles c
  have hlc : (c :: t).length = t.length + 1 := rfl
  unfold f68 rcells
  refine Tot.eq ?_
  (repeat' first | (with_reducible first | apply Tot.of (qaa rfl) | apply Tot.of (qay rfl) | apply Tot.of (qai rfl) | apply Tot.of (qat rfl) | apply Tot.of (st_guard rfl) | apply Tot.of (st_gs rfl) | apply Tot.of (qaj rfl) | apply Tot.of (st_it rfl) | apply Tot.gbl (b := true) | apply Tot.gbl (b := false) | apply Tot.bql (b := true) | apply Tot.bql (b := false) | apply Tot.ift | apply Tot.iff | apply Tot.iftt | apply Tot.ifft) | ((conv => arg 2; arg 1; simp (disch := first | omega | assumption) only [qas, qan, nilCheck_ref, qag, lenStr_str, qaq, qa4, Nat.zero_add, Nat.add_zero, List.length_cons, qah, qaf, qaw, st_load, Int.toNat_natCast, Int.reduceToNat, slStr_to, slStr_from, idxStr0, r90, s90, r91, s91, ht]); (with_reducible first | apply Tot.of (qaa rfl) | apply Tot.bql (b := false) | (apply Tot.gtr; all_goals intro hsp) | (apply Tot.geq; all_goals intro hsp) | (apply Tot.bq; all_goals intro hsp))))
  · ((try conv => arg 2; simp (disch := first | omega | assumption) only [qad, qam, qak, qac, qah, qaf, qab, qae, st_length, st_take]); refine Tot.ret ?_)
    rw [wlen_pair (by omega) (by assumption)]; rfl
  · ((try conv => arg 2; simp (disch := first | omega | assumption) only [qad, qam, qak, qac, qah, qaf, qab, qae, st_length, st_take]); refine Tot.ret ?_)
    rw [wlen_single (.inr (by assumption)) (by rw [hsl]; simpa using ‹Lib.indexByte _ c ≥ 0›)]; rfl
  · rw [wlen_run (.inr (by assumption)) (by rw [hsl]; simpa using ‹¬Lib.indexByte _ c ≥ 0›)]
    (refine Tot.of_eq ?_; (conv => lhs; simp (disch := first | omega | assumption) only [qah]); exact hlo _)
  · ((try conv => arg 2; simp (disch := first | omega | assumption) only [qad, qam, qak, qac, qah, qaf, qab, qae, st_length, st_take]); refine Tot.ret ?_)
    rw [wlen_single (.inl (by omega)) (by rw [hsl]; simpa using ‹Lib.indexByte _ c ≥ 0›)]; rfl
  · rw [wlen_run (.inl (by omega)) (by rw [hsl]; simpa using ‹¬Lib.indexByte _ c ≥ 0›)]
    (refine Tot.of_eq ?_; (conv => lhs; simp (disch := first | omega | assumption) only [qah]); exact hlo _)
end Go.Vm.Rx

/- What the readers of lines come to. -/
namespace Go.Vm.Rx
open Go.Proofs P
set_option linter.unusedVariables false
set_option linter.unusedSimpArgs false
set_option maxRecDepth 10000
set_option maxHeartbeats 1000000
def cellsW (w : Word) : List D := [.str w.t, .int .i64 w.line, .int .i64 w.col]
def encW (w : Word) : D := .agg (cellsW w)
theorem plainW (w : Word) : Plain (encW w) := ⟨fun n => rfl, rfl⟩
theorem plainWs (l : List Word) : PlainL (l.map encW) := PlainL.map plainW l
theorem cellW (w : Word) : (encW w).cellsT true = some (cellsW w) := rfl
theorem spartsW (t : Str) (a b : Int) : sliceParts 3 true 0 [(0, .agg [.str t, .int .i64 a, .int .i64 b])] = some [.agg [.str t, .int .i64 a, .int .i64 b]] := rfl
def lineRes (ws : List Word) : Except Nat (List Word) → D
  | .ok l => .tup [encL 3 ((ws ++ l).map encW), .int .i64 (-1)]
  | .error a => .tup [.sl .sh 0 [], .int .i64 (a : Nat)]
theorem s50_loop (s : Str) (hs : s.length ≤ 100000000) (n : Int) (A : St) : ∀ (f i : Nat) (ws : List Word) (b : Option Nat) (t : Str) (x : Except Nat (List Word)), s.drop i = t → toks n f i t = some x → ws.length ≤ i → AccOk b 3 (ws.map encW) →
    iterK (f50_s0 mL (Run Tryd.prog rxA) (Dcall Tryd.prog rxA) A) (Env.mk (sp [(0, .str s), (0, .int .i64 n), (4, accD b A.length 3 (ws.map encW)), (0, .int .i64 (i : Nat))] 46) []) (accA b A (ws.map encW)) = some (.ret (lineRes ws x), A) := by
  intro f
  induction f with
  | zero => intro i ws b t x ht hx; cases hx
  | succ f ih =>
    intro i ws b t x ht hx hw hb
    refine Tot.eq (Tot.iter ?_)
    conv => arg 2; arg 1; unfold f50_s0
    have hK := accA_Kept b A (ws.map encW)
    have hT := accA_take b A (ws.map encW)
    have hS := fun m => acc_shut (c := A.length) (m := m) hb (plainWs ws)
    cases t with
    | nil =>
      have hl := drop_len ht
      rw [toks_nil] at hx
      cases hx
      (repeat' first | (with_reducible first | apply Tot.of (qaa rfl) | apply Tot.of (qau rfl) | apply Tot.of (qa9 rfl) | apply Tot.of (qay rfl) | apply Tot.of (qai rfl) | apply Tot.of (st_inr rfl) | apply Tot.of (qav rfl) | apply Tot.gbl (b := false) | apply Tot.bql (b := false) | apply Tot.iff | apply Tot.ifft) | ((conv => arg 2; arg 1; simp (disch := first | omega | assumption) only [qan, qad, Option.map_some, qam, shut_tup, qbc, qa1, qac, qap, lenStr_str, qa2, sp_gs, qbe, qah, qaf, canon_tup, qa5, qax, qab, qae, hK, hT]); (with_reducible first | apply Tot.of (qaa rfl) | apply Tot.bql (b := false) | (apply Tot.lss_f; omega))))
      all_goals (((try conv => arg 2; simp (disch := first | omega | assumption) only [hS]); refine Tot.ret ?_); simp [lineRes])
    | cons c t =>
      have hl := drop_lt ht
      have hix := idxStr ht .i64
      have hne := s69 s (by omega) i c t ht
      have hl2 := congrArg List.length ht
      simp only [List.length_drop, List.length_cons] at hl2
      have hwl := wlen_le (c :: t)
      simp only [List.length_cons] at hwl
      rw [toks_cons] at hx
      have hd : (s.take (i + wlen (c :: t))).drop i = (c :: t).take (wlen (c :: t)) := by rw [List.drop_take, ht]; congr 1; omega
      have hm : (((i : Nat) : Int) + ((wlen (c :: t) : Nat) : Int)).toNat = i + wlen (c :: t) := by omega
      have hap := app_acc1 (w := 32) (A := A) (d := encW ⟨(c :: t).take (wlen (c :: t)), n, i + 1⟩) hb (by simp; omega) (by omega)
      simp only [encW, cellsW] at hap
      (repeat' first | (with_reducible first | apply Tot.of (qaa rfl) | apply Tot.of (qau rfl) | apply Tot.of (st_bind rfl) | apply Tot.of (qa9 rfl) | apply Tot.of (qay rfl) | apply Tot.of (qai rfl) | apply Tot.of (qa0 rfl) | apply Tot.of (qat rfl) | apply Tot.of (st_inl rfl) | apply Tot.of (st_inr rfl) | apply Tot.of (qav rfl) | apply Tot.gbl (b := true) | apply Tot.gbl (b := false) | apply Tot.bql (b := true) | apply Tot.bql (b := false) | apply Tot.ift | apply Tot.iff | apply Tot.iftt | apply Tot.iftf | apply Tot.ifff | (apply Tot.eql; all_goals intro hsp) | (apply Tot.neq; all_goals intro hsp)) | ((conv => arg 2; arg 1; simp (disch := first | omega | assumption) only [qas, qan, qad, Option.map_some, qbb, qa3, qam, shut_sl, shut_tup, qbc, qa1, own_full, qac, qap, lenStr_str, lay_int, lay_s, qa2, sp_gs, qbe, qah, qaf, qaw, canon_tup, qa5, qax, canon_nil, qab, qae, Int.toNat_natCast, lay_str, slStr_mid, hK, hT, hix, hne, r69, spartsW, hd, hm, hap]); (with_reducible first | apply Tot.of (qaa rfl) | apply Tot.bql (b := true) | apply Tot.bql (b := false) | (apply Tot.lss_t; omega) | (apply Tot.eql; all_goals intro hsp))))
      · ((try conv => arg 2; simp (disch := first | omega | assumption) only [hS]); refine Tot.ret ?_)
        rw [if_pos (by omega)] at hx
        cases hx
        simp [lineRes]
      · rw [if_neg (by omega), if_pos (by omega)] at hx
        have := ih (i + 1) ws b t x (qba ht) hx (by omega) hb
        (refine Tot.of_eq ?_; (conv => lhs; simp (disch := first | omega | assumption) only [qa2, sp_gs, qbe]); exact this)
      · rw [if_neg (by omega), if_pos (by omega)] at hx
        have := ih (i + 1) ws b t x (qba ht) hx (by omega) hb
        (refine Tot.of_eq ?_; (conv => lhs; simp (disch := first | omega | assumption) only [qa2, sp_gs, qbe]); exact this)
      · ((try conv => arg 2; simp (disch := first | omega | assumption) only []); refine Tot.ret ?_)
        rw [if_neg (by omega), if_neg (by omega), if_pos (by omega)] at hx
        cases hx
        simp [lineRes]
      · rw [if_neg (by omega), if_neg (by omega), if_neg (by omega)] at hx
        simp only [Option.map_eq_some_iff] at hx
        obtain ⟨y, hy, rfl⟩ := hx
        have := ih (i + wlen (c :: t)) (ws ++ [⟨(c :: t).take (wlen (c :: t)), n, i + 1⟩]) none _ y (by rw [← List.drop_drop, ht]) hy (by simp; omega) (.own _ _)
        have e : lineRes ws (y.map fun l => ⟨(c :: t).take (wlen (c :: t)), n, ((i : Nat) : Int) + 1⟩ :: l) = lineRes (ws ++ [⟨(c :: t).take (wlen (c :: t)), n, i + 1⟩]) y := by
          cases y <;> simp [lineRes, Except.map]
        (refine Tot.of_eq ?_; (conv => lhs; simp (disch := first | omega | assumption) only [qa2, qbe]); rw [e]; simp only [List.map_append, List.map_cons, List.map_nil] at this; exact this)
theorem s50 (s : Str) (hs : s.length ≤ 100000000) (n : Int) (x : Except Nat (List Word)) (hx : toks n (s.length + 1) 0 s = some x) (A : St) : f50 mL (Run Tryd.prog rxA) (Dcall Tryd.prog rxA) (.str s) (.int .i64 n) A = some (.ret (lineRes [] x), A) := by
  unfold f50
  exact s50_loop s hs n A _ 0 [] (some 0) s x rfl hx (by simp) (.nil 3)
end Go.Vm.Rx

/- What the program's reader of a line comes to. -/
namespace Go.Vm.Rx
open Go.Proofs P
set_option linter.unusedVariables false
set_option linter.unusedSimpArgs false
set_option maxRecDepth 10000
set_option maxHeartbeats 1000000
theorem s67 (k : Nat) (line at_ m : Int) (s : Str) (o : D) (A : St) (hk : k < A.length) (ho : o.shut A.length = o) (h1 : -9223372036854775808 ≤ at_ + m) (h2 : at_ + m ≤ 9223372036854775807) :
    f67 mL (Run Tryd.prog rxA) (Dcall Tryd.prog rxA) (.ref k 0) (.int .i64 m) (st A k [.int .i64 line, .int .i64 at_, .str s, o]) = some (.ret (.tup []), st A k [.int .i64 line, .int .i64 (at_ + m), .str s, o]) := by
  have hK : ∀ a b : Int, Kept (st A k [.int .i64 line, .int .i64 a, .str s, o]) (st A k [.int .i64 line, .int .i64 b, .str s, o]) ↔ True := fun a b => Kept_st2 (by simp [ho])
  unfold f67
  refine Tot.eq ?_
  (repeat' first | (with_reducible first | apply Tot.of (qay rfl) | apply Tot.of (qaj rfl)) | ((conv => arg 2; arg 1; simp (disch := first | omega | assumption) only [Option.map_some, qbb, qa3, nilCheck_ref, qag, qaq, qa4, Nat.zero_add, lay_int, lay_s, mp_some, st_load, st_store]); (with_reducible first | apply Tot.of (qaa rfl))))
  ((try conv => arg 2; simp (disch := first | omega | assumption) only [qad, shut_tup, qbc, qac, canon_tup, qa5, qab, qae, st_length, st_take, hK]); refine Tot.ret ?_)
  rfl
/-- the store where a reader stands: its variable is slot k, the room of its words slot c -/
def stR (A : St) (k c : Nat) (line at_ : Int) (s : Str) (ws : List Word) : St := st (A.set c (.tok ws.length)) k [.int .i64 line, .int .i64 at_, .str s, .sl (.own c 0) 3 (ws.map encW)]
def readOut (A : St) (k c : Nat) (line : Int) (s : Str) (ws : List Word) (x : Except Nat (List Word)) (r : Res × St) : Prop :=
  match x with
  | .ok l => ∃ j, r = (.ret (.tup []), stR A k c line j s (ws ++ l))
  | .error a => ∃ ws', r = (.pan (.iface 93 (.agg [.int .i64 line, .int .i64 ((a : Int) + 1)])), stR A k c line a s ws')
theorem app_stR {A : St} {k c : Nat} {line at_ : Int} {s : Str} {ws : List Word} {w : Word} (hc : c < A.length) (hk : k < A.length) (hkc : k ≠ c) (hl : ws.length ≤ 100000000) :
    appendO 3 32 (.sl (.own c 0) 3 (ws.map encW)) (.sl .full 3 [encW w]) (stR A k c line at_ s ws) = some (.sl (.own c 0) 3 ((ws ++ [w]).map encW), (stR A k c line at_ s ws).set c (.tok (ws.length + 1))) := by
  rw [append_own (s0 := 0) (new := [encW w]) (by simp [appendNew, esOk]) (by
    unfold stR
    rw [st_other (Ne.symm hkc), List.getElem?_set_self hc]
    simp) (by simp [roomOk]; omega) (by simp; omega)]
  simp
theorem set_stR {A : St} {k c : Nat} {cs : List D} {s s' : Slot} (hkc : k ≠ c) : (st (A.set c s) k cs).set c s' = st (A.set c s') k cs := by
  unfold st
  rw [List.set_comm _ _ hkc, List.set_set]
theorem stR_app (A : St) (k c : Nat) (line at_ : Int) (s : Str) (ws : List Word) (w : Word) : st (A.set c (.tok (ws.length + 1))) k [.int .i64 line, .int .i64 at_, .str s, .sl (.own c 0) 3 ((ws ++ [w]).map encW)] = stR A k c line at_ s (ws ++ [w]) := by
  unfold stR; rw [List.length_append]; rfl
theorem s48_loop (s : Str) (hs : s.length ≤ 100000000) (n : Int) (A : St) (k c : Nat) (hk : k < A.length) (hc : c < A.length) (hkc : k ≠ c) : ∀ (f i : Nat) (ws : List Word) (t : Str) (x : Except Nat (List Word)), s.drop i = t → toks n f i t = some x → ws.length ≤ i →
    Tot (readOut A k c n s ws x) (iterK (f48_s0 mL (Run Tryd.prog rxA) (Dcall Tryd.prog rxA) A) (Env.mk (sp [(0, .ref k 0)] 107) []) (stR A k c n i s ws)) := by
  intro f
  induction f with
  | zero => intro i ws t x ht hx; cases hx
  | succ f ih =>
    intro i ws t x ht hx hw
    refine Tot.iter ?_
    conv => arg 2; arg 1; unfold f48_s0
    have hk' : k < (A.set c (.tok ws.length)).length := by simpa using hk
    have hix := fun c t (h : s.drop i = c :: t) => idxStr h .i64
    have hld : ∀ (g : Bool) (m off : Nat), loadO g m (.ref k off) (stR A k c n i s ws) = ofCells g [.int .i64 n, .int .i64 (i : Nat), .str s, .sl (.own c 0) 3 (ws.map encW)] off m := fun g m off => st_load hk'
    have hst : (stR A k c n i s ws) = st (A.set c (.tok ws.length)) k [.int .i64 n, .int .i64 (i : Nat), .str s, .sl (.own c 0) 3 (ws.map encW)] := rfl
    have ho : (D.sl (.own c 0) 3 (ws.map encW)).shut (A.set c (.tok ws.length)).length = D.sl (.own c 0) 3 (ws.map encW) := by
      simp [own_own 0 hc, (plainWs ws).shut]
    have hsp1 : i ≤ s.length → Run Tryd.prog rxA 67 [.ref k 0, .int .i64 1] (stR A k c n i s ws) = some (.ret (.tup []), stR A k c n ((i : Int) + 1) s ws) := fun h => by
      rw [r67]
      exact s67 k n i 1 s _ _ hk' ho (by omega) (by omega)
    cases t with
    | nil =>
      have hl := drop_len ht
      rw [toks_nil] at hx
      cases hx
      (repeat' first | (with_reducible first | apply Tot.of (qaa rfl) | apply Tot.of (qau rfl) | apply Tot.of (qa9 rfl) | apply Tot.of (qay rfl) | apply Tot.of (qai rfl) | apply Tot.of (qbd rfl) | apply Tot.of (st_inr rfl) | apply Tot.of (st_guard rfl) | apply Tot.of (st_bngs rfl) | apply Tot.of (qav rfl) | apply Tot.gbl (b := false) | apply Tot.bql (b := false) | apply Tot.iff | apply Tot.ifft | (apply Tot.lss_f; omega)) | ((conv => arg 2; arg 1; simp (disch := first | omega | assumption) only [qan, Option.map_some, leave_keep, qap, nilCheck_ref, qag, lenStr_str, qaq, qa4, Nat.zero_add, Nat.add_zero, qa2, hld]); (with_reducible first | apply Tot.of (qaa rfl) | apply Tot.bql (b := false))))
      all_goals (((try conv => arg 2; simp (disch := first | omega | assumption) only []); refine Tot.ret ?_); exact ⟨i, by simp⟩)
    | cons d t =>
      have hl := drop_lt ht
      have hi := idxStr ht .i64
      have hl2 := congrArg List.length ht
      simp only [List.length_drop, List.length_cons] at hl2
      have hwl := wlen_le (d :: t)
      simp only [List.length_cons] at hwl
      have hne : Run Tryd.prog rxA 68 [.ref k 0] (stR A k c n i s ws) = some (.ret (.int .i64 (wlen (d :: t) : Nat)), stR A k c n i s ws) := by
        rw [r68]
        exact s68 k n s (.sl (.own c 0) 3 (ws.map encW)) (by omega) i d t ht _ hk'
      have hd : (s.take (i + wlen (d :: t))).drop i = (d :: t).take (wlen (d :: t)) := by rw [List.drop_take, ht]; congr 1; omega
      have hm : (((i : Nat) : Int) + ((wlen (d :: t) : Nat) : Int)).toNat = i + wlen (d :: t) := by omega
      have hap := app_stR (A := A) (line := n) (at_ := i) (s := s) (ws := ws) (w := ⟨(d :: t).take (wlen (d :: t)), n, i + 1⟩) hc hk hkc (by omega)
      have hse : ∀ x, (stR A k c n i s ws).set c (.tok x) = st (A.set c (.tok x)) k [.int .i64 n, .int .i64 (i : Nat), .str s, .sl (.own c 0) 3 (ws.map encW)] := fun x => set_stR hkc
      simp only [encW, cellsW] at hap
      have hk2 : ∀ x, k < (A.set c (.tok x)).length := fun x => by simpa using hk
      have hst2 := fun w => stR_app A k c n i s ws w
      have hk3 := hk2 (ws.length + 1)
      have hpl : D.shutL A.length ((ws ++ [(⟨(d :: t).take (wlen (d :: t)), n, i + 1⟩ : Word)]).map encW) = (ws ++ [(⟨(d :: t).take (wlen (d :: t)), n, i + 1⟩ : Word)]).map encW := (plainWs _).shut _
      have hsp2 : Run Tryd.prog rxA 67 [.ref k 0, .int .i64 (wlen (d :: t) : Nat)] (stR A k c n i s (ws ++ [⟨(d :: t).take (wlen (d :: t)), n, i + 1⟩])) = some (.ret (.tup []), stR A k c n ((i : Int) + (wlen (d :: t) : Nat)) s (ws ++ [⟨(d :: t).take (wlen (d :: t)), n, i + 1⟩])) := by
        rw [r67]
        exact s67 k n i (wlen (d :: t) : Nat) s _ _ (by simpa using hk) (by rw [List.length_set, shut_sl, own_own 0 hc, hpl]) (by omega) (by omega)
      rw [toks_cons] at hx
      have hsp1' := hsp1 (by omega)
      (repeat' first | (with_reducible first | apply Tot.of (qaa rfl) | apply Tot.of (qau rfl) | apply Tot.of (st_bind rfl) | apply Tot.of (qa9 rfl) | apply Tot.of (qay rfl) | apply Tot.of (qai rfl) | apply Tot.of (qa0 rfl) | apply Tot.of (st_bnsum rfl) | apply Tot.of (qbd rfl) | apply Tot.of (qat rfl) | apply Tot.of (st_inl rfl) | apply Tot.of (st_inr rfl) | apply Tot.of (st_guard rfl) | apply Tot.of (st_bngs rfl) | apply Tot.of (qav rfl) | apply Tot.gbl (b := true) | apply Tot.gbl (b := false) | apply Tot.bql (b := true) | apply Tot.bql (b := false) | apply Tot.ift | apply Tot.iff | apply Tot.iftt | apply Tot.iftf | apply Tot.ifff | (apply Tot.lss_t; omega) | (apply Tot.eql; all_goals intro hsp) | (apply Tot.neq; all_goals intro hsp)) | ((conv => arg 2; arg 1; simp (disch := first | omega | assumption) only [qas, qan, Option.map_some, qbb, qa3, leave_keep, qap, leaves_pan, nilCheck_ref, qag, lenStr_str, qaq, qa4, Nat.zero_add, Nat.add_zero, lay_int, lay_sl, lay_s, qa2, sp_gs, qbe, mp_some, qah, st_store, Int.toNat_natCast, lay_str, slStr_mid, hld, hi, hne, hsp1', hd, hm, spartsW, hap, hse, hst2, hsp2]); (with_reducible first | apply Tot.of (qaa rfl) | apply Tot.bql (b := true) | apply Tot.bql (b := false) | (apply Tot.eql; all_goals intro hsp))))
      · ((try conv => arg 2; simp (disch := first | omega | assumption) only []); refine Tot.ret ?_)
        rw [if_pos (by omega)] at hx
        cases hx
        exact ⟨i, by simp⟩
      · rw [if_neg (by omega), if_pos (by omega)] at hx
        exact ih (i + 1) ws t x (qba ht) hx (by omega)
      · rw [if_neg (by omega), if_pos (by omega)] at hx
        exact ih (i + 1) ws t x (qba ht) hx (by omega)
      · ((try conv => arg 2; simp (disch := first | omega | assumption) only []); refine Tot.ret ?_)
        rw [if_neg (by omega), if_neg (by omega), if_pos (by omega)] at hx
        cases hx
        exact ⟨ws, rfl⟩
      · rw [if_neg (by omega), if_neg (by omega), if_neg (by omega)] at hx
        simp only [Option.map_eq_some_iff] at hx
        obtain ⟨y, hy, rfl⟩ := hx
        have := ih (i + wlen (d :: t)) (ws ++ [(⟨(d :: t).take (wlen (d :: t)), n, i + 1⟩ : Word)]) _ y (by rw [← List.drop_drop, ht]) hy (by simp; omega)
        refine Tot.mono this fun r hr => ?_
        cases y with
        | ok l => obtain ⟨j, hj⟩ := hr; exact ⟨j, by rw [hj]; simp⟩
        | error a => exact hr
theorem s48 (s : Str) (hs : s.length ≤ 100000000) (n : Int) (A : St) (k c : Nat) (hk : k < A.length) (hc : c < A.length) (hkc : k ≠ c) (x : Except Nat (List Word)) (hx : toks n (s.length + 1) 0 s = some x) :
    Tot (readOut A k c n s [] x) (f48 mL (Run Tryd.prog rxA) (Dcall Tryd.prog rxA) (.ref k 0) (stR A k c n 0 s [])) := by
  unfold f48
  exact s48_loop s hs n A k c hk hc hkc _ 0 [] s x rfl hx (by simp)
end Go.Vm.Rx
