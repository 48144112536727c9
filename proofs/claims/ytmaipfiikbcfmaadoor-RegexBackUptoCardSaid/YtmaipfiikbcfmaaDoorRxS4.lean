/- RxS1, RxS2, RxS3, RxS4 in one text. -/
import Derived.Test.YtmaipfiikbcfmaaDoorRxF1
import Derived.Test.YtmaipfiikbcfmaaDoorRxF2
import Derived.Test.YtmaipfiikbcfmaaDoorRxF3
import Derived.Test.YtmaipfiikbcfmaaDoorVmSt2
import Derived.Test.YtmaipfiikbcfmaaDoorRxPure3
import Derived.Lib.Bytealg
set_option linter.all false
/- What the tests of bytes and names come to. -/
namespace Go.Vm.Rx
open Go.Proofs P
set_option linter.unusedVariables false
set_option linter.unusedSimpArgs false
set_option maxRecDepth 10000
set_option maxHeartbeats 1000000
theorem s84 (c : UInt8) (A : St) : f84 mL (Run Tryd.prog rxA) (Dcall Tryd.prog rxA) (.int .u8 (c.toNat : Int)) A = some (.ret (.bool (digit c)), A) := by
  unfold f84
  refine Tot.eq ?_
  (repeat' first | (with_reducible first | apply Tot.of (qaa rfl) | apply Tot.of (qa3 rfl) | apply Tot.of (qah rfl) | apply Tot.of (qak rfl) | apply Tot.gbl (b := true) | apply Tot.gbl (b := false) | apply Tot.bql (b := true) | apply Tot.bql (b := false) | apply Tot.iftt | apply Tot.ifft | (apply Tot.leq; all_goals intro hsp) | (apply Tot.geq; all_goals intro hsp)))
  all_goals (((try conv => arg 2; simp (disch := first | omega | assumption) only [qa8, qaw, qac, qau, qa2, qad, List.take_length, qap, qab, qae]); refine Tot.ret ?_); simp [digit]; omega)
/-- the or of a byte and 32 -/
def low (c : UInt8) : Nat := (c ||| 32).toNat
theorem or32 (n : Nat) (l : Bool) (c : UInt8) : binO .or n l (.int .u8 (c.toNat : Int)) (.int .u8 32) = some (.int .u8 ((low c : Nat) : Int)) := by
  rw [binO_or]
  revert c
  have h : ∀ c : Fin 256, IntKind.wrap .u8 (BitVec.ofInt IntKind.u8.bits (((UInt8.ofNat c.val).toNat : Nat) : Int) ||| BitVec.ofInt IntKind.u8.bits 32).toNat = ((low (UInt8.ofNat c.val) : Nat) : Int) := by decide +kernel
  intro c
  have := h ⟨c.toNat, c.toNat_lt⟩
  simp only [UInt8.ofNat_toNat] at this
  rw [this]
theorem low_letter (c : UInt8) : letter c = ((decide (97 ≤ low c ∧ low c ≤ 122)) || digit c || decide (c.toNat = 95) || decide (c.toNat = 45)) := by
  have h : ∀ c : Fin 256, letter (UInt8.ofNat c.val) = ((decide (97 ≤ low (UInt8.ofNat c.val) ∧ low (UInt8.ofNat c.val) ≤ 122)) || digit (UInt8.ofNat c.val) || decide ((UInt8.ofNat c.val).toNat = 95) || decide ((UInt8.ofNat c.val).toNat = 45)) := by decide +kernel
  have := h ⟨c.toNat, c.toNat_lt⟩
  simpa only [UInt8.ofNat_toNat] using this
theorem s85 (c : UInt8) (A : St) : f85 mL (Run Tryd.prog rxA) (Dcall Tryd.prog rxA) (.int .u8 (c.toNat : Int)) A = some (.ret (.bool (letter c)), A) := by
  unfold f85
  rw [low_letter]
  refine Tot.eq ?_
  (repeat' first | (with_reducible first | apply Tot.of (qaa rfl) | apply Tot.of (qa3 rfl) | apply Tot.of (qah rfl) | apply Tot.of (qas rfl) | apply Tot.of (qak rfl) | apply Tot.gbl (b := true) | apply Tot.gbl (b := false) | apply Tot.bql (b := true) | apply Tot.bql (b := false) | apply Tot.iftt | apply Tot.ifft | apply Tot.iftf | apply Tot.ifff | (apply Tot.leq; all_goals intro hsp) | (apply Tot.geq; all_goals intro hsp) | (apply Tot.eql; all_goals intro hsp)) | ((conv => arg 2; arg 1; simp (disch := first | omega | assumption) only [qa8, qaw, qag, r84, s84, or32]); (with_reducible first | apply Tot.of (qaa rfl) | apply Tot.gbl (b := true) | apply Tot.gbl (b := false) | apply Tot.bql (b := true) | apply Tot.bql (b := false) | (apply Tot.gb_t; assumption) | (apply Tot.gb_f; assumption) | (apply Tot.bq_t; assumption) | (apply Tot.bq_f; assumption) | (apply Tot.gb; all_goals intro hsp))))
  all_goals (((try conv => arg 2; simp (disch := first | omega | assumption) only [qa8, qaw, qac, qau, qa2, qad, List.take_length, qap, qab, qae]); refine Tot.ret ?_); simp [*] <;> omega)
theorem s63_loop (s : Str) (hs : s.length < 4611686018427387904) (A : St) : ∀ (t : Str) (i : Nat), s.drop i = t → i ≤ s.length →
    iterK (f63_s0 mL (Run Tryd.prog rxA) (Dcall Tryd.prog rxA) A) (Env.mk (sp [(0, .str s), (21, .int .i64 (s.length : Nat)), (0, .int .i64 (i : Nat))] 8) []) A = some (.ret (.bool (t.all letter)), A) := by
  intro t
  induction t with
  | nil =>
    intro i ht _
    have hl := drop_len ht
    refine Tot.eq (Tot.iter ?_)
    conv => arg 2; arg 1; unfold f63_s0
    (repeat' first | (with_reducible first | apply Tot.of (qaq rfl) | apply Tot.of (qba rfl) | apply Tot.of (qah rfl) | apply Tot.of (st_inr rfl) | apply Tot.of (qa0 rfl) | apply Tot.bql (b := false) | apply Tot.iff) | ((conv => arg 2; arg 1; simp (disch := first | omega | assumption) only [qac, Option.map_some, qau, qa2, qad, qal, List.take_length, qa5, qbb, qbe, qap, qab, qae]); (with_reducible first | apply Tot.of (qaa rfl) | (apply Tot.lss_f; omega))))
    all_goals (((try conv => arg 2; simp (disch := first | omega | assumption) only []); refine Tot.ret ?_); simp)
  | cons c t ih =>
    intro i ht _
    have hl := drop_lt ht
    refine Tot.eq (Tot.iter ?_)
    conv => arg 2; arg 1; unfold f63_s0
    have hx := idxStr ht .i64
    (repeat' first | (with_reducible first | apply Tot.of (qaa rfl) | apply Tot.of (qaq rfl) | apply Tot.of (qba rfl) | apply Tot.of (qah rfl) | apply Tot.of (qav rfl) | apply Tot.of (st_bnguard rfl) | apply Tot.of (qas rfl) | apply Tot.of (st_inl rfl) | apply Tot.of (st_inr rfl) | apply Tot.of (st_bngk rfl) | apply Tot.of (qa0 rfl) | apply Tot.bql (b := true) | apply Tot.ift | apply Tot.iff | apply Tot.if_n | apply Tot.bq_n | (apply Tot.bq; all_goals intro hsp)) | ((conv => arg 2; arg 1; simp (disch := first | omega | assumption) only [qac, Option.map_some, binO_add, qbi, qau, qa2, qad, qal, List.take_length, un_not, qa5, qbb, qbe, qai, qag, qap, qab, qae, r85, s85, hx]); (with_reducible first | apply Tot.of (qaa rfl) | apply Tot.of (st_guard rfl) | (apply Tot.lss_t; omega))))
    · (refine Tot.of_eq ?_; (conv => lhs; simp (disch := first | omega | assumption) only [qao, shut_strD, List.take_length, List.map_nil, qa5, qbb, qbe]); have := ih (i + 1) (drop_succ ht) (by omega); simp only [List.all_cons, *, Bool.true_and]; exact this)
    · ((try conv => arg 2; simp (disch := first | omega | assumption) only []); refine Tot.ret ?_); simp [*]
theorem s63 (s : Str) (hs : s.length < 4611686018427387904) (A : St) : f63 mL (Run Tryd.prog rxA) (Dcall Tryd.prog rxA) (.str s) A = some (.ret (.bool (isName s)), A) := by
  unfold f63
  cases s with
  | nil =>
    refine Tot.eq ?_
    (repeat' first | (with_reducible first | apply Tot.of (qaa rfl) | apply Tot.of (qa3 rfl) | apply Tot.of (qah rfl) | apply Tot.of (qas rfl) | apply Tot.of (qak rfl) | apply Tot.gbl (b := true) | apply Tot.bql (b := true) | apply Tot.ift | apply Tot.iftf | (apply Tot.seql_t; first | assumption | with_reducible rfl)) | ((conv => arg 2; arg 1; simp (disch := first | omega | assumption) only [qa8]); (with_reducible first | apply Tot.gbl (b := true) | apply Tot.bql (b := true))))
    all_goals (((try conv => arg 2; simp (disch := first | omega | assumption) only [qac, qau, qa2, qad, List.take_length, qap, qab, qae]); refine Tot.ret ?_); simp [isName])
  | cons c r =>
    have hl := s63_loop (c :: r) hs A (c :: r) 0 rfl (by simp)
    have e : isName (c :: r) = (decide (r.length < 64) && !digit c && decide (c.toNat ≠ 45) && (c :: r).all letter) := rfl
    simp only [List.length_cons] at hs
    refine Tot.eq ?_
    (repeat' first | (with_reducible first | apply Tot.of (qaa rfl) | apply Tot.of (qa3 rfl) | apply Tot.of (qah rfl) | apply Tot.of (qas rfl) | apply Tot.of (qak rfl) | apply Tot.of (st_it rfl) | apply Tot.gbl (b := true) | apply Tot.gbl (b := false) | apply Tot.bql (b := false) | apply Tot.ift | apply Tot.iff | apply Tot.iftf | apply Tot.ifff | (apply Tot.eql; all_goals intro hsp) | (apply Tot.seql_f; first | assumption | decide | exact List.cons_ne_nil _ _)) | ((conv => arg 2; arg 1; simp (disch := first | omega | assumption) only [qa8, qaw, qbk, List.length_cons, qai, qag, idxStr0, r84, s84]); (with_reducible first | apply Tot.of (qaa rfl) | apply Tot.gbl (b := true) | apply Tot.gbl (b := false) | apply Tot.bql (b := true) | apply Tot.bql (b := false) | (apply Tot.gtr; all_goals intro hsp) | (apply Tot.gb_t; assumption) | (apply Tot.gb_f; assumption) | (apply Tot.bq_t; assumption) | (apply Tot.bq_f; assumption) | (apply Tot.gb; all_goals intro hsp))))
    all_goals (by_cases h1 : r.length < 64 <;> by_cases h2 : c.toNat = 45)
    all_goals first
      | (exfalso; omega)
      | (((try conv => arg 2; simp (disch := first | omega | assumption) only [qac, qau, qa2, qad, List.take_length, qap, qab, qae]); refine Tot.ret ?_); simp [e, *]; done)
      | (refine Tot.of_eq ?_
         rw [e]
         simp only [decide_eq_true h1, decide_eq_true h2, *, Bool.true_and, Bool.not_false, ne_eq, not_false_eq_true, decide_true]
         exact hl)
end Go.Vm.Rx

/- What the readers of one word come to. -/
namespace Go.Vm.Rx
open Go.Proofs P
set_option linter.unusedVariables false
set_option linter.unusedSimpArgs false
set_option maxRecDepth 10000
set_option maxHeartbeats 1000000
theorem s90 (s : Str) (A : St) : f90 mL (Run Tryd.prog rxA) (Dcall Tryd.prog rxA) (.str s) A = some (.ret (.bool (pair s)), A) := by
  unfold f90
  refine Tot.eq ?_
  (repeat' first | (with_reducible first | apply Tot.of (qaa rfl) | apply Tot.of (qa3 rfl) | apply Tot.of (qah rfl) | apply Tot.of (qak rfl) | apply Tot.gbl (b := true) | apply Tot.gbl (b := false) | apply Tot.bql (b := true) | apply Tot.bql (b := false) | apply Tot.iftf | apply Tot.ifff | (apply Tot.seql; all_goals intro hsp)) | ((conv => arg 2; arg 1; simp (disch := first | omega | assumption) only [qa8, qaw]); (with_reducible first | apply Tot.gbl (b := true) | apply Tot.gbl (b := false) | apply Tot.bql (b := true) | apply Tot.bql (b := false))))
  all_goals (((try conv => arg 2; simp (disch := first | omega | assumption) only [qa8, qaw, qac, qau, qa2, qad, List.take_length, qap, qab, qae]); refine Tot.ret ?_); simp [pair, *])
theorem s108 (s : Str) (c : UInt8) (A : St) : Run Tryd.prog rxA 108 [.str s, .int .u8 (c.toNat : Int)] A = some (.ret (.int .i64 (Lib.indexByte s c)), A) := by
  rw [Run_ext _ _ (by decide) rfl]
  simp [indexByteX]
theorem s102 (s : Str) (c : UInt8) (A : St) : f102 mL (Run Tryd.prog rxA) (Dcall Tryd.prog rxA) (.str s) (.int .u8 (c.toNat : Int)) A = some (.ret (.int .i64 (Lib.indexByte s c)), A) := by
  unfold f102
  refine Tot.eq ?_
  (repeat' first | (with_reducible first | apply Tot.of (qas rfl) | apply Tot.of (qak rfl)) | ((conv => arg 2; arg 1; simp (disch := first | omega | assumption) only [s108]); (with_reducible first | apply Tot.of (qaa rfl))))
  all_goals (((try conv => arg 2; simp (disch := first | omega | assumption) only [qac, qao, qa2, qad, List.take_length, qag, qab, qae]); refine Tot.ret ?_); rfl)
theorem s91 (s : Str) (c : UInt8) (A : St) : f91 mL (Run Tryd.prog rxA) (Dcall Tryd.prog rxA) (.str s) (.int .u8 (c.toNat : Int)) A = some (.ret (.int .i64 (Lib.indexByte s c)), A) := by
  unfold f91
  refine Tot.eq ?_
  (repeat' first | (with_reducible first | apply Tot.of (qas rfl) | apply Tot.of (qak rfl)) | ((conv => arg 2; arg 1; simp (disch := first | omega | assumption) only [qag, qam, r102, s102]); (with_reducible first | apply Tot.of (qaa rfl))))
  all_goals (((try conv => arg 2; simp (disch := first | omega | assumption) only [qac, qao, qa2, qad, List.take_length, qag, qab, qae]); refine Tot.ret ?_); rfl)
theorem idx_low (s : Str) (c : UInt8) : -1 ≤ Lib.indexByte s c := by
  induction s with
  | nil => simp [Lib.indexByte]
  | cons b l ih =>
    unfold Lib.indexByte
    split
    · omega
    · split
      · omega
      · omega
theorem idx_contains (s : Str) (c : UInt8) : s.contains c = decide (0 ≤ Lib.indexByte s c) := by
  induction s with
  | nil => simp [Lib.indexByte]
  | cons b l ih =>
    have := idx_low l c
    unfold Lib.indexByte
    by_cases h : b = c
    · subst h; simp
    · have h' : ¬ c = b := fun e => h e.symm
      simp only [List.contains_cons, ih]
      have e1 : (c == b) = false := by simp [h']
      have e2 : (b == c) = false := by simp [h]
      rw [e1, e2]
      simp only [Bool.false_or, Bool.false_eq_true, if_false]
      split
      · rename_i h1
        have : Lib.indexByte l c = -1 := by simpa using h1
        rw [this]
      · congr 1
        rename_i h1
        have : ¬ Lib.indexByte l c = -1 := by simpa using h1
        apply propext
        omega
theorem take_pre (s p : Str) (h : p.length ≤ s.length) : (s.take p.length = p) ↔ p.isPrefixOf s = true := by
  rw [List.isPrefixOf_iff_prefix]
  constructor
  · intro e; rw [← e]; exact List.take_prefix _ _
  · rintro ⟨t, rfl⟩; simp
theorem s103 (s p : Str) (hs : s.length < 4611686018427387904) (A : St) : f103 mL (Run Tryd.prog rxA) (Dcall Tryd.prog rxA) (.str s) (.str p) A = some (.ret (.bool (p.isPrefixOf s)), A) := by
  unfold f103
  refine Tot.eq ?_
  (repeat' first | (with_reducible first | apply Tot.of (qaa rfl) | apply Tot.of (qa3 rfl) | apply Tot.of (qah rfl) | apply Tot.of (qak rfl) | apply Tot.gbl (b := true) | apply Tot.gbl (b := false) | apply Tot.bql (b := true) | apply Tot.bql (b := false) | apply Tot.iftt | apply Tot.ifft | (apply Tot.geq; all_goals intro hsp) | (apply Tot.seql; all_goals intro hsp)) | ((conv => arg 2; arg 1; simp (disch := first | omega | assumption) only [qbk, Int.toNat_natCast, slStr_to]); (with_reducible first | apply Tot.of (qaa rfl))))
  · ((try conv => arg 2; simp (disch := first | omega | assumption) only [qa8, qac, qau, qa2, qad, List.take_length, qap, qab, qae]); refine Tot.ret ?_)
    have := (take_pre s p (by omega)).1 (by assumption)
    simp [this]
  · ((try conv => arg 2; simp (disch := first | omega | assumption) only [qa8, qac, qau, qa2, qad, List.take_length, qap, qab, qae]); refine Tot.ret ?_)
    have : ¬ p.isPrefixOf s = true := fun h => absurd ((take_pre s p (by omega)).2 h) (by assumption)
    simp only [Bool.not_eq_true] at this
    simp [this]
  · ((try conv => arg 2; simp (disch := first | omega | assumption) only [qaw, qac, qau, qa2, qad, List.take_length, qap, qab, qae]); refine Tot.ret ?_)
    have : ¬ p.isPrefixOf s = true := by
      rw [List.isPrefixOf_iff_prefix]
      intro h
      have := h.length_le
      omega
    simp only [Bool.not_eq_true] at this
    simp [this]
theorem s92 (s p : Str) (hs : s.length < 4611686018427387904) (A : St) : f92 mL (Run Tryd.prog rxA) (Dcall Tryd.prog rxA) (.str s) (.str p) A = some (.ret (.bool (p.isPrefixOf s)), A) := by
  unfold f92
  refine Tot.eq ?_
  (repeat' first | (with_reducible first | apply Tot.of (qas rfl) | apply Tot.of (qak rfl)) | ((conv => arg 2; arg 1; simp (disch := first | omega | assumption) only [qam, r103, s103]); (with_reducible first | apply Tot.of (qaa rfl))))
  all_goals (((try conv => arg 2; simp (disch := first | omega | assumption) only [qac, qau, qa2, qad, List.take_length, qap, qab, qae]); refine Tot.ret ?_); rfl)
theorem wlen_cons (c : UInt8) (r : Str) : wlen (c :: r) = if decide (1 ≤ r.length) && pair ((c :: r).take 2) then 2 else if single c then 1 else run (c :: r) := rfl
theorem wlen_pair {c : UInt8} {t : Str} (h : 1 ≤ t.length) (h2 : pair ((c :: t).take 2) = true) : wlen (c :: t) = 2 := by
  rw [wlen_cons, h2, decide_eq_true h]; rfl
theorem wlen_np {c : UInt8} {t : Str} (h : t.length < 1 ∨ pair ((c :: t).take 2) = false) : wlen (c :: t) = if single c then 1 else run (c :: t) := by
  rw [wlen_cons]
  rcases h with h | h
  · rw [decide_eq_false (by omega)]; rfl
  · rw [h, Bool.and_false]; rfl
theorem wlen_single {c : UInt8} {t : Str} (h : t.length < 1 ∨ pair ((c :: t).take 2) = false) (h2 : single c = true) : wlen (c :: t) = 1 := by rw [wlen_np h, h2]; rfl
theorem wlen_run {c : UInt8} {t : Str} (h : t.length < 1 ∨ pair ((c :: t).take 2) = false) (h2 : single c = false) : wlen (c :: t) = run (c :: t) := by rw [wlen_np h, h2]; rfl
/-! next -/
/-! size -/
theorem s68_loop (u : Str) (hs : u.length < 4611686018427387904) (A B : St) : ∀ (t : Str) (n : Nat), u.drop n = t → n ≤ u.length →
    iterK (f68_s0 mL (Run Tryd.prog rxA) (Dcall Tryd.prog rxA) A) (Env.mk (sp [(3, .str u), (0, .int .i64 (n : Nat))] 42) []) A = some (.ret (.int .i64 ((n : Int) + (run t : Nat))), A) := by
  intro t
  induction t with
  | nil =>
    intro n ht h2
    have hl := drop_len ht
    refine Tot.eq (Tot.iter ?_)
    conv => arg 2; arg 1; unfold f68_s0
    (repeat' first | (with_reducible first | apply Tot.of (qaa rfl) | apply Tot.of (qaq rfl) | apply Tot.of (qba rfl) | apply Tot.of (qa3 rfl) | apply Tot.of (qah rfl) | apply Tot.of (qav rfl) | apply Tot.of (qas rfl) | apply Tot.of (st_inr rfl) | apply Tot.of (qa0 rfl) | apply Tot.gbl (b := false) | apply Tot.bql (b := false) | apply Tot.iff | apply Tot.ifft) | ((conv => arg 2; arg 1; simp (disch := first | omega | assumption) only [qaw, qac, Option.map_some, qao, qa2, qad, qal, qbk, List.take_length, qa5, qbb, qbe, qag, qab, qae]); (with_reducible first | apply Tot.of (qaa rfl) | apply Tot.gbl (b := false) | apply Tot.bql (b := false) | (apply Tot.lss_f; omega))))
    all_goals (((try conv => arg 2; simp (disch := first | omega | assumption) only []); refine Tot.ret ?_); simp [run])
  | cons c t ih =>
    intro n ht h2
    have hl := drop_lt ht
    have hx := idxStr ht .i64
    have hd : u.drop n = c :: t := ht
    have hpl : (u.drop n).length < 4611686018427387904 := by rw [List.length_drop]; omega
    refine Tot.eq (Tot.iter ?_)
    conv => arg 2; arg 1; unfold f68_s0
    (repeat' first | (with_reducible first | apply Tot.of (qaa rfl) | apply Tot.of (qaq rfl) | apply Tot.of (qba rfl) | apply Tot.of (qa3 rfl) | apply Tot.of (qah rfl) | apply Tot.of (qav rfl) | apply Tot.of (st_bnguard rfl) | apply Tot.of (qas rfl) | apply Tot.of (st_inl rfl) | apply Tot.of (st_inr rfl) | apply Tot.of (st_bngk rfl) | apply Tot.of (qa0 rfl) | apply Tot.gbl (b := true) | apply Tot.gbl (b := false) | apply Tot.bql (b := true) | apply Tot.ift | apply Tot.iff | apply Tot.iftt | apply Tot.ifft | apply Tot.if_n | (apply Tot.bq; all_goals intro hsp)) | ((conv => arg 2; arg 1; simp (disch := first | omega | assumption) only [qa8, qaw, qac, Option.map_some, binO_add, qbi, qao, qa2, qad, qal, qbk, List.take_length, un_not, qa5, qbb, qbe, qai, qag, qam, qab, qae, Int.toNat_natCast, slStr_from, r85, s85, hx, r92, s92]); (with_reducible first | apply Tot.of (qaa rfl) | apply Tot.of (st_guard rfl) | apply Tot.bql (b := false) | apply Tot.bq_n | (apply Tot.lss_t; omega) | (apply Tot.gb_t; assumption) | (apply Tot.gb_f; assumption) | (apply Tot.bq_t; assumption) | (apply Tot.bq_f; assumption) | (apply Tot.gb; all_goals intro hsp))))
    · ((try conv => arg 2; simp (disch := first | omega | assumption) only []); refine Tot.ret ?_)
      rw [hd] at *
      have : run (c :: t) = 0 := by simp [run, *]
      rw [this]; simp
    · rw [hd] at *
      have e2 : run (c :: t) = run t + 1 := by simp [run, *]
      have := ih (n + 1) (drop_succ ht) (by omega)
      have e3 : ((n : Int) + ((run t + 1 : Nat) : Int)) = (((n + 1 : Nat) : Int) + (run t : Nat)) := by omega
      (refine Tot.of_eq ?_; (conv => lhs; simp (disch := first | omega | assumption) only [qao, shut_strD, List.take_length, List.map_nil, qa5, qbb]); rw [e2, e3]; exact this)
    · ((try conv => arg 2; simp (disch := first | omega | assumption) only []); refine Tot.ret ?_)
      have : run (c :: t) = 0 := by simp [run, *]
      rw [this]; simp
/-- a reader's cells -/
def rcells (line at_ : Int) (s : Str) (o : D) : List D := [.int .i64 line, .int .i64 at_, .str s, o]
theorem s68 (k : Nat) (line : Int) (s : Str) (o : D) (hs : s.length < 4611686018427387904) (i : Nat) (c : UInt8) (t : Str) (ht : s.drop i = c :: t) (A : St) (hk : k < A.length) :
    f68 mL (Run Tryd.prog rxA) (Dcall Tryd.prog rxA) (.ref k 0) (st A k (rcells line i s o)) = some (.ret (.int .i64 (wlen (c :: t) : Nat)), st A k (rcells line i s o)) := by
  have hl := drop_lt ht
  have hl2 := congrArg List.length ht
  simp only [List.length_drop, List.length_cons] at hl2
  have hlo := fun B => s68_loop (c :: t) (by simp only [List.length_cons]; omega) B B (c :: t) 0 rfl (by omega)
  have e3 : (((0 : Nat) : Int) + (run (c :: t) : Nat)) = (run (c :: t) : Nat) := by omega
  simp only [e3] at hlo
  have hsi : ∀ x : Int, decide (x ≥ 0) = decide (0 ≤ x) := fun x => rfl
  have hsl : single c = decide (0 ≤ Lib.indexByte [40, 41, 44, 124, 42, 43, 63, 46, 36, 61, 60, 62] c) := idx_contains singles c
  have hlc : (c :: t).length = t.length + 1 := rfl
  unfold f68 rcells
  refine Tot.eq ?_
  (repeat' first | (with_reducible first | apply Tot.of (qaa rfl) | apply Tot.of (qa3 rfl) | apply Tot.of (qah rfl) | apply Tot.of (qas rfl) | apply Tot.of (st_guard rfl) | apply Tot.of (st_gs rfl) | apply Tot.of (qak rfl) | apply Tot.of (st_it rfl) | apply Tot.gbl (b := true) | apply Tot.gbl (b := false) | apply Tot.bql (b := true) | apply Tot.bql (b := false) | apply Tot.ift | apply Tot.iff | apply Tot.iftt | apply Tot.ifft) | ((conv => arg 2; arg 1; simp (disch := first | omega | assumption) only [qa8, qaw, qa1, qaf, qbk, qa4, ofCellsS, Nat.zero_add, Nat.add_zero, List.length_cons, qai, qag, qam, st_load, Int.toNat_natCast, Int.reduceToNat, slStr_to, slStr_from, idxStr0, r90, s90, r91, s91, ht]); (with_reducible first | apply Tot.of (qaa rfl) | apply Tot.bql (b := false) | (apply Tot.gtr; all_goals intro hsp) | (apply Tot.geq; all_goals intro hsp) | (apply Tot.bq; all_goals intro hsp))))
  · ((try conv => arg 2; simp (disch := first | omega | assumption) only [qac, qao, qa2, qad, qai, qag, qab, qae, qax, st_take]); refine Tot.ret ?_)
    rw [wlen_pair (by omega) (by assumption)]; rfl
  · ((try conv => arg 2; simp (disch := first | omega | assumption) only [qac, qao, qa2, qad, qai, qag, qab, qae, qax, st_take]); refine Tot.ret ?_)
    rw [wlen_single (.inr (by assumption)) (by rw [hsl]; simpa using ‹Lib.indexByte _ c ≥ 0›)]; rfl
  · rw [wlen_run (.inr (by assumption)) (by rw [hsl]; simpa using ‹¬Lib.indexByte _ c ≥ 0›)]
    (refine Tot.of_eq ?_; (conv => lhs; simp (disch := first | omega | assumption) only [qai]); exact hlo _)
  · ((try conv => arg 2; simp (disch := first | omega | assumption) only [qac, qao, qa2, qad, qai, qag, qab, qae, qax, st_take]); refine Tot.ret ?_)
    rw [wlen_single (.inl (by omega)) (by rw [hsl]; simpa using ‹Lib.indexByte _ c ≥ 0›)]; rfl
  · rw [wlen_run (.inl (by omega)) (by rw [hsl]; simpa using ‹¬Lib.indexByte _ c ≥ 0›)]
    (refine Tot.of_eq ?_; (conv => lhs; simp (disch := first | omega | assumption) only [qai]); exact hlo _)
end Go.Vm.Rx

/- What the readers of lines come to. -/
namespace Go.Vm.Rx
open Go.Proofs P
set_option linter.unusedVariables false
set_option linter.unusedSimpArgs false
set_option maxRecDepth 10000
set_option maxHeartbeats 1000000
def cellsW (w : Word) : List D := [.str w.t, .int .i64 w.line, .int .i64 w.col]
def encW (w : Word) : D := .agg (cellsW w)
theorem plainW (w : Word) : Plain (encW w) := ⟨fun n => rfl, rfl⟩
theorem plainWs (l : List Word) : PlainL (l.map encW) := PlainL.map plainW l
theorem cellW (w : Word) : (encW w).cellsT true = some (cellsW w) := rfl
theorem sparts1 (n : Nat) (g : Bool) (d : D) (cs : List D) (h : d.cellsT g = some cs) (hn : cs.length = n) : sliceParts n g 0 [(0, d)] = some [d] := by
  simp [sliceParts, h, hn]
theorem spartsW (t : Str) (a b : Int) : sliceParts 3 true 0 [(0, .agg [.str t, .int .i64 a, .int .i64 b])] = some [.agg [.str t, .int .i64 a, .int .i64 b]] := rfl
end Go.Vm.Rx

/- What the program's reader of a line comes to. -/
namespace Go.Vm.Rx
open Go.Proofs P
set_option linter.unusedVariables false
set_option linter.unusedSimpArgs false
set_option maxRecDepth 10000
set_option maxHeartbeats 1000000
theorem s67 (k : Nat) (line at_ m : Int) (s : Str) (o : D) (A : St) (hk : k < A.length) (ho : o.shut A.length = o) (h1 : -9223372036854775808 ≤ at_ + m) (h2 : at_ + m ≤ 9223372036854775807) :
    f67 mL (Run Tryd.prog rxA) (Dcall Tryd.prog rxA) (.ref k 0) (.int .i64 m) (st A k [.int .i64 line, .int .i64 at_, .str s, o]) = some (.ret (.tup []), st A k [.int .i64 line, .int .i64 (at_ + m), .str s, o]) := by
  have hK : ∀ a b : Int, Kept (st A k [.int .i64 line, .int .i64 a, .str s, o]) (st A k [.int .i64 line, .int .i64 b, .str s, o]) ↔ True := fun a b => Kept_st2 (by simp [ho])
  unfold f67
  refine Tot.eq ?_
  (repeat' first | (with_reducible first | apply Tot.of (qa3 rfl) | apply Tot.of (qak rfl)) | ((conv => arg 2; arg 1; simp (disch := first | omega | assumption) only [Option.map_some, binO_add, qbi, qa1, qaf, qa4, ofCellsS, Nat.zero_add, lay_int, lay_s, qaz, st_load, st_store]); (with_reducible first | apply Tot.of (qaa rfl))))
  ((try conv => arg 2; simp (disch := first | omega | assumption) only [qac, shut_tup, qay, qad, canon_tup, qat, qab, qae, qax, st_take, hK]); refine Tot.ret ?_)
  rfl
/-- the store where a reader stands: its variable is slot k, the room of its words slot c -/
def stR (A : St) (k c : Nat) (line at_ : Int) (s : Str) (ws : List Word) : St := st (A.set c (.tok ws.length)) k [.int .i64 line, .int .i64 at_, .str s, .sl (.own c 0) 3 (ws.map encW)]
def readOut (A : St) (k c : Nat) (line : Int) (s : Str) (ws : List Word) (x : Except Nat (List Word)) (r : Res × St) : Prop :=
  match x with
  | .ok l => ∃ j, r = (.ret (.tup []), stR A k c line j s (ws ++ l))
  | .error a => ∃ ws', r = (.pan (.iface 93 (.agg [.int .i64 line, .int .i64 ((a : Int) + 1)])), stR A k c line a s ws')
theorem app_stR {A : St} {k c : Nat} {line at_ : Int} {s : Str} {ws : List Word} {w : Word} (hc : c < A.length) (hk : k < A.length) (hkc : k ≠ c) (hl : ws.length ≤ 100000000) :
    appendO 3 32 (.sl (.own c 0) 3 (ws.map encW)) (.sl .full 3 [encW w]) (stR A k c line at_ s ws) = some (.sl (.own c 0) 3 ((ws ++ [w]).map encW), (stR A k c line at_ s ws).set c (.tok (ws.length + 1))) := by
  rw [append_own (s0 := 0) (new := [encW w]) (by simp [appendNew, esOk]) (by
    unfold stR
    rw [st_other (Ne.symm hkc), List.getElem?_set_self hc]
    simp) (by simp [roomOk]; omega) (by simp; omega)]
  simp
theorem set_stR {A : St} {k c : Nat} {cs : List D} {s s' : Slot} (hkc : k ≠ c) : (st (A.set c s) k cs).set c s' = st (A.set c s') k cs := by
  unfold st
  rw [List.set_comm _ _ hkc, List.set_set]
theorem stR_app (A : St) (k c : Nat) (line at_ : Int) (s : Str) (ws : List Word) (w : Word) : st (A.set c (.tok (ws.length + 1))) k [.int .i64 line, .int .i64 at_, .str s, .sl (.own c 0) 3 ((ws ++ [w]).map encW)] = stR A k c line at_ s (ws ++ [w]) := by
  unfold stR; rw [List.length_append]; rfl
theorem s48_loop (s : Str) (hs : s.length ≤ 100000000) (n : Int) (A : St) (k c : Nat) (hk : k < A.length) (hc : c < A.length) (hkc : k ≠ c) : ∀ (f i : Nat) (ws : List Word) (t : Str) (x : Except Nat (List Word)), s.drop i = t → toks n f i t = some x → ws.length ≤ i →
    Tot (readOut A k c n s ws x) (iterK (f48_s0 mL (Run Tryd.prog rxA) (Dcall Tryd.prog rxA) A) (Env.mk (sp [(0, .ref k 0)] 107) []) (stR A k c n i s ws)) := by
  intro f
  induction f with
  | zero => intro i ws t x ht hx; cases hx
  | succ f ih =>
    intro i ws t x ht hx hw
    refine Tot.iter ?_
    conv => arg 2; arg 1; unfold f48_s0
    have hk' : k < (A.set c (.tok ws.length)).length := by simpa using hk
    have hix := fun c t (h : s.drop i = c :: t) => idxStr h .i64
    have hld : ∀ (g : Bool) (m off : Nat), loadO g m (.ref k off) (stR A k c n i s ws) = ofCells g [.int .i64 n, .int .i64 (i : Nat), .str s, .sl (.own c 0) 3 (ws.map encW)] off m := fun g m off => st_load hk'
    have hst : (stR A k c n i s ws) = st (A.set c (.tok ws.length)) k [.int .i64 n, .int .i64 (i : Nat), .str s, .sl (.own c 0) 3 (ws.map encW)] := rfl
    have ho : (D.sl (.own c 0) 3 (ws.map encW)).shut (A.set c (.tok ws.length)).length = D.sl (.own c 0) 3 (ws.map encW) := by
      simp [own_own 0 hc, (plainWs ws).shut]
    have hsp1 : i ≤ s.length → Run Tryd.prog rxA 67 [.ref k 0, .int .i64 1] (stR A k c n i s ws) = some (.ret (.tup []), stR A k c n ((i : Int) + 1) s ws) := fun h => by
      rw [r67]
      exact s67 k n i 1 s _ _ hk' ho (by omega) (by omega)
    cases t with
    | nil =>
      have hl := drop_len ht
      rw [toks_nil] at hx
      cases hx
      (repeat' first | (with_reducible first | apply Tot.of (qaa rfl) | apply Tot.of (qaq rfl) | apply Tot.of (qba rfl) | apply Tot.of (qa3 rfl) | apply Tot.of (qah rfl) | apply Tot.of (st_bnguard rfl) | apply Tot.of (st_inr rfl) | apply Tot.of (st_guard rfl) | apply Tot.of (st_bngs rfl) | apply Tot.of (qa0 rfl) | apply Tot.gbl (b := false) | apply Tot.bql (b := false) | apply Tot.iff | apply Tot.ifft | (apply Tot.lss_f; omega)) | ((conv => arg 2; arg 1; simp (disch := first | omega | assumption) only [qaw, Option.map_some, leave_keep, qal, qa1, qaf, qbk, qa4, ofCellsS, Nat.zero_add, Nat.add_zero, qa5, hld]); (with_reducible first | apply Tot.of (qaa rfl) | apply Tot.bql (b := false))))
      all_goals (((try conv => arg 2; simp (disch := first | omega | assumption) only []); refine Tot.ret ?_); exact ⟨i, by simp⟩)
    | cons d t =>
      have hl := drop_lt ht
      have hi := idxStr ht .i64
      have hl2 := congrArg List.length ht
      simp only [List.length_drop, List.length_cons] at hl2
      have hwl := wlen_le (d :: t)
      simp only [List.length_cons] at hwl
      have hne : Run Tryd.prog rxA 68 [.ref k 0] (stR A k c n i s ws) = some (.ret (.int .i64 (wlen (d :: t) : Nat)), stR A k c n i s ws) := by
        rw [r68]
        exact s68 k n s (.sl (.own c 0) 3 (ws.map encW)) (by omega) i d t ht _ hk'
      have hd : (s.take (i + wlen (d :: t))).drop i = (d :: t).take (wlen (d :: t)) := by rw [List.drop_take, ht]; congr 1; omega
      have hm : (((i : Nat) : Int) + ((wlen (d :: t) : Nat) : Int)).toNat = i + wlen (d :: t) := by omega
      have hap := app_stR (A := A) (line := n) (at_ := i) (s := s) (ws := ws) (w := ⟨(d :: t).take (wlen (d :: t)), n, i + 1⟩) hc hk hkc (by omega)
      have hse : ∀ x, (stR A k c n i s ws).set c (.tok x) = st (A.set c (.tok x)) k [.int .i64 n, .int .i64 (i : Nat), .str s, .sl (.own c 0) 3 (ws.map encW)] := fun x => set_stR hkc
      simp only [encW, cellsW] at hap
      have hk2 : ∀ x, k < (A.set c (.tok x)).length := fun x => by simpa using hk
      have hst2 := fun w => stR_app A k c n i s ws w
      have hk3 := hk2 (ws.length + 1)
      have hpl : D.shutL A.length ((ws ++ [(⟨(d :: t).take (wlen (d :: t)), n, i + 1⟩ : Word)]).map encW) = (ws ++ [(⟨(d :: t).take (wlen (d :: t)), n, i + 1⟩ : Word)]).map encW := (plainWs _).shut _
      have hsp2 : Run Tryd.prog rxA 67 [.ref k 0, .int .i64 (wlen (d :: t) : Nat)] (stR A k c n i s (ws ++ [⟨(d :: t).take (wlen (d :: t)), n, i + 1⟩])) = some (.ret (.tup []), stR A k c n ((i : Int) + (wlen (d :: t) : Nat)) s (ws ++ [⟨(d :: t).take (wlen (d :: t)), n, i + 1⟩])) := by
        rw [r67]
        exact s67 k n i (wlen (d :: t) : Nat) s _ _ (by simpa using hk) (by rw [List.length_set, shut_sl, own_own 0 hc, hpl]) (by omega) (by omega)
      rw [toks_cons] at hx
      have hsp1' := hsp1 (by omega)
      (repeat' first | (with_reducible first | apply Tot.of (qaa rfl) | apply Tot.of (qaq rfl) | apply Tot.of (st_bind rfl) | apply Tot.of (qba rfl) | apply Tot.of (qa3 rfl) | apply Tot.of (qah rfl) | apply Tot.of (qav rfl) | apply Tot.of (st_bnsum rfl) | apply Tot.of (st_bnguard rfl) | apply Tot.of (qas rfl) | apply Tot.of (st_inl rfl) | apply Tot.of (st_inr rfl) | apply Tot.of (st_guard rfl) | apply Tot.of (st_bngs rfl) | apply Tot.of (qa0 rfl) | apply Tot.gbl (b := true) | apply Tot.gbl (b := false) | apply Tot.bql (b := true) | apply Tot.bql (b := false) | apply Tot.ift | apply Tot.iff | apply Tot.iftt | apply Tot.iftf | apply Tot.ifff | (apply Tot.lss_t; omega) | (apply Tot.eql; all_goals intro hsp) | (apply Tot.neq; all_goals intro hsp)) | ((conv => arg 2; arg 1; simp (disch := first | omega | assumption) only [qa8, qaw, Option.map_some, binO_add, qbi, leave_keep, qal, leaves_pan, qa1, qaf, qbk, qa4, ofCellsS, Nat.zero_add, Nat.add_zero, lay_int, lay_sl, lay_s, qa5, qbb, qbe, qaz, qai, st_store, Int.toNat_natCast, lay_str, slStr_mid, hld, hi, hne, hsp1', hd, hm, spartsW, hap, hse, hst2, hsp2]); (with_reducible first | apply Tot.of (qaa rfl) | apply Tot.bql (b := true) | apply Tot.bql (b := false) | (apply Tot.eql; all_goals intro hsp))))
      · ((try conv => arg 2; simp (disch := first | omega | assumption) only []); refine Tot.ret ?_)
        rw [if_pos (by omega)] at hx
        cases hx
        exact ⟨i, by simp⟩
      · rw [if_neg (by omega), if_pos (by omega)] at hx
        exact ih (i + 1) ws t x (drop_succ ht) hx (by omega)
      · rw [if_neg (by omega), if_pos (by omega)] at hx
        exact ih (i + 1) ws t x (drop_succ ht) hx (by omega)
      · ((try conv => arg 2; simp (disch := first | omega | assumption) only []); refine Tot.ret ?_)
        rw [if_neg (by omega), if_neg (by omega), if_pos (by omega)] at hx
        cases hx
        exact ⟨ws, rfl⟩
      · rw [if_neg (by omega), if_neg (by omega), if_neg (by omega)] at hx
        simp only [Option.map_eq_some_iff] at hx
        obtain ⟨y, hy, rfl⟩ := hx
        have := ih (i + wlen (d :: t)) (ws ++ [(⟨(d :: t).take (wlen (d :: t)), n, i + 1⟩ : Word)]) _ y (by rw [← List.drop_drop, ht]) hy (by simp; omega)
        refine Tot.mono this fun r hr => ?_
        cases y with
        | ok l => obtain ⟨j, hj⟩ := hr; exact ⟨j, by rw [hj]; simp⟩
        | error a => exact hr
theorem s48 (s : Str) (hs : s.length ≤ 100000000) (n : Int) (A : St) (k c : Nat) (hk : k < A.length) (hc : c < A.length) (hkc : k ≠ c) (x : Except Nat (List Word)) (hx : toks n (s.length + 1) 0 s = some x) :
    Tot (readOut A k c n s [] x) (f48 mL (Run Tryd.prog rxA) (Dcall Tryd.prog rxA) (.ref k 0) (stR A k c n 0 s [])) := by
  unfold f48
  exact s48_loop s hs n A k c hk hc hkc _ 0 [] s x rfl hx (by simp)
end Go.Vm.Rx
