/- RxS38, RxS39, RxS40, RxS41 in one text. -/
import Derived.Test.YtmaipfiikbcfmaaDoorRxS37
import Derived.Test.YtmaipfiikbcfmaaDoorVmSt4
import Derived.Test.YtmaipfiikbcfmaaDoorRxS14
set_option linter.all false
/- Rows of words as one row: slices.Concat of texts. -/
namespace Go.Vm.Rx
open Go Go.Proofs P
set_option linter.unusedVariables false
set_option linter.unusedSimpArgs false
set_option linter.unusedSectionVars false
set_option maxRecDepth 10000
set_option maxHeartbeats 2000000
def sRow (l : List Str) : D := encL 1 (l.map .str)
theorem len_sRow (l : List Str) : lenSlO (sRow l) = some (.int .i64 l.length) := by simp [sRow]
theorem s60_loop (A : St) (rows : List (List Str)) (hl : rows.flatten.length ≤ 1000000) (hrl : rows.length ≤ 100000000) : ∀ (t : List (List Str)) (i : Nat) (acc : List Str) (b : Option Nat), rows.drop i = t → i ≤ rows.length → acc ++ t.flatten = rows.flatten → AccOk b 1 (acc.map D.str) →
    ∃ b', AccOk b' 1 (rows.flatten.map D.str) ∧ iterK (f60_s0 mL (Run Tryd.prog rxA) (Dcall Tryd.prog rxA) A) (Env.mk (sp [(6, accD b A.length 1 (acc.map D.str)), (18, encL 1 (rows.map sRow)), (0, .int .i64 (rows.length : Nat)), (0, .int .i64 (i : Nat))] 8) []) (accA b A (acc.map D.str)) =
      some (.ret (accD b' A.length 1 (rows.flatten.map D.str)), accA b' A (rows.flatten.map D.str)) := by
  intro t
  induction t with
  | nil =>
    intro i acc b ht hi hacc hb
    have h1 := drop_len ht
    simp only [List.flatten_nil, List.append_nil] at hacc
    subst hacc
    refine ⟨b, hb, ?_⟩
    have hlv := acc_leave (b := b) (A := A) (n := 1) (plainStrs rows.flatten)
    refine Tot.eq (Tot.iter ?_)
    conv => arg 2; arg 1; unfold f60_s0
    (repeat' first | (with_reducible first | apply Tot.of (qaq rfl) | apply Tot.of (qba rfl) | apply Tot.of (qah rfl) | apply Tot.of (st_inr rfl) | apply Tot.of (qa0 rfl) | apply Tot.bql (b := false) | apply Tot.iff) | ((conv => arg 2; arg 1; simp (disch := first | omega | assumption) only [Option.map_some, qal, qa5, qbb, qbe, hlv]); (with_reducible first | apply Tot.of (qaa rfl) | (apply Tot.lss_f; omega))))
    all_goals (((try conv => arg 2; simp (disch := first | omega | assumption) only []); refine Tot.ret ?_); rfl)
  | cons x t ih =>
    intro i acc b ht hi hacc hb
    have h1 := drop_lt ht
    have hx := idx_drop (f := sRow) ht 1 false .i64
    have hlen := congrArg List.length hacc
    simp only [List.length_append, List.flatten_cons] at hlen
    rw [List.flatten_cons, ← List.append_assoc] at hacc
    have hap := app_accL (A := A) (w := 16) (new := x.map D.str) hb (by simp; omega) (by omega)
    simp only [← List.map_append] at hap
    obtain ⟨b', hb', hq⟩ := ih (i + 1) (acc ++ x) (accNext b 1 (x.map D.str)) (drop_succ ht) (by omega) hacc (by rw [List.map_append]; exact hb.next _)
    simp only [Int.natCast_add, Int.natCast_one] at hq
    refine ⟨b', hb', ?_⟩
    have hc : (sRow x).cellsT false = some [sRow x] := rfl
    have hf : ofCells false [sRow x] 0 1 = some (sRow x) := rfl
    have he : sRow x = encL 1 (x.map D.str) := rfl
    refine Tot.eq (Tot.iter ?_)
    conv => arg 2; arg 1; unfold f60_s0
    (repeat' first | (with_reducible first | apply Tot.of (qaa rfl) | apply Tot.of (qaq rfl) | apply Tot.of (qa3 rfl) | apply Tot.of (qah rfl) | apply Tot.of (st_inl rfl) | apply Tot.bql (b := true) | apply Tot.ift) | ((conv => arg 2; arg 1; simp (disch := first | omega | assumption) only [binO_add, qbi, qbf, qa4, qa5, qbb, qbe, qaz, qai, cell_encL, hx, he, hap]); (with_reducible first | apply Tot.of (qaa rfl) | (apply Tot.lss_t; omega))))
    (refine Tot.of_eq ?_; (conv => lhs; simp (disch := first | omega | assumption) only [qa5, qbb, qbe]); exact hq)
theorem s60_sum (A : St) (rows : List (List Str)) (hl : rows.flatten.length ≤ 1000000) (hrl : rows.length ≤ 100000000) : ∀ (t : List (List Str)) (i n : Nat), rows.drop i = t → i ≤ rows.length → n + t.flatten.length = rows.flatten.length →
    ∃ b', AccOk b' 1 (rows.flatten.map D.str) ∧ iterK (f60_s1 mL (Run Tryd.prog rxA) (Dcall Tryd.prog rxA) A) (Env.mk (sp [(0, encL 1 (rows.map sRow)), (2, .int .i64 (n : Nat)), (5, encL 1 (rows.map sRow)), (0, .int .i64 (rows.length : Nat)), (0, .int .i64 (i : Nat))] 24) []) A =
      some (.ret (accD b' A.length 1 (rows.flatten.map D.str)), accA b' A (rows.flatten.map D.str)) := by
  intro t
  induction t with
  | nil =>
    intro i n ht hi hn
    have h1 := drop_len ht
    simp only [List.flatten_nil, List.length_nil, Nat.add_zero] at hn
    subst hn
    by_cases h0 : rows.flatten.length = 0
    · obtain ⟨b', hb', hq⟩ := s60_loop A rows hl hrl rows 0 [] (some 0) rfl (by omega) (by simp) (.nil 1)
      refine ⟨b', hb', ?_⟩
      have hg : Run Tryd.prog rxA 82 [.sl .full 0 [], .int .i64 (rows.flatten.length : Nat)] A = some (.ret (.sl .full 0 []), A) := by
        rw [Run_ext _ _ (by decide) rfl, h0]; rfl
      refine Tot.eq (Tot.iter ?_)
      conv => arg 2; arg 1; unfold f60_s1
      (repeat' first | (with_reducible first | apply Tot.of (qaq rfl) | apply Tot.of (qba rfl) | apply Tot.of (qah rfl) | apply Tot.of (qav rfl) | apply Tot.of (qas rfl) | apply Tot.of (st_bnit rfl) | apply Tot.bql (b := false) | apply Tot.iff) | ((conv => arg 2; arg 1; simp (disch := first | omega | assumption) only [qa5, qbb, qbe, len_encL, List.length_map, hg]); (with_reducible first | apply Tot.of (qaa rfl) | (apply Tot.lss_f; omega))))
      (refine Tot.of_eq ?_; (conv => lhs; simp (disch := first | omega | assumption) only [Sum.elim_inr, qa5, qai]); rw [bn_id]; exact hq)
    · obtain ⟨b', hb', hq⟩ := s60_loop A rows hl hrl rows 0 [] none rfl (by omega) (by simp) (.own _ _)
      refine ⟨b', hb', ?_⟩
      have hg : Run Tryd.prog rxA 82 [.sl .full 0 [], .int .i64 (rows.flatten.length : Nat)] A = some (.ret (.sl (.own A.length 0) 1 []), A ++ [.tok 0]) := by
        rw [Run_ext _ _ (by decide) rfl]
        show (if ((rows.flatten.length : Nat) : Int) < 0 then none else if ((rows.flatten.length : Nat) : Int) = 0 then _ else cond (roomOk ((rows.flatten.length : Nat) : Int).toNat 16) _ _) = _
        have hro : roomOk ((rows.flatten.length : Nat) : Int).toNat 16 = true := by
          simp only [roomOk, decide_eq_true_eq, Int.toNat_natCast]; omega
        rw [if_neg (by omega), if_neg (by omega), hro]; rfl
      refine Tot.eq (Tot.iter ?_)
      conv => arg 2; arg 1; unfold f60_s1
      (repeat' first | (with_reducible first | apply Tot.of (qaq rfl) | apply Tot.of (qba rfl) | apply Tot.of (qah rfl) | apply Tot.of (qav rfl) | apply Tot.of (qas rfl) | apply Tot.of (st_bnit rfl) | apply Tot.bql (b := false) | apply Tot.iff) | ((conv => arg 2; arg 1; simp (disch := first | omega | assumption) only [qa5, qbb, qbe, len_encL, List.length_map, hg]); (with_reducible first | apply Tot.of (qaa rfl) | (apply Tot.lss_f; omega))))
      (refine Tot.of_eq ?_; (conv => lhs; simp (disch := first | omega | assumption) only [Sum.elim_inr, qa5, qai]); rw [bn_id]; exact hq)
  | cons x t ih =>
    intro i n ht hi hn
    have h1 := drop_lt ht
    have hx := idx_drop (f := sRow) ht 1 false .i64
    have hc : (sRow x).cellsT false = some [sRow x] := rfl
    have hf : ofCells false [sRow x] 0 1 = some (sRow x) := rfl
    simp only [List.flatten_cons, List.length_append] at hn
    obtain ⟨b', hb', hq⟩ := ih (i + 1) (n + x.length) (drop_succ ht) (by omega) (by omega)
    simp only [Int.natCast_add, Int.natCast_one] at hq
    refine ⟨b', hb', ?_⟩
    refine Tot.eq (Tot.iter ?_)
    conv => arg 2; arg 1; unfold f60_s1
    (repeat' first | (with_reducible first | apply Tot.of (qaa rfl) | apply Tot.of (qaq rfl) | apply Tot.of (qa3 rfl) | apply Tot.of (qah rfl) | apply Tot.of (st_bnsum rfl) | apply Tot.of (st_inl rfl) | apply Tot.bql (b := true) | apply Tot.bql (b := false) | apply Tot.ift | apply Tot.iff) | ((conv => arg 2; arg 1; simp (disch := first | omega | assumption) only [binO_add, qbi, qbf, qa5, qbb, qbe, qaz, qai, hx, hc, hf, len_sRow]); (with_reducible first | apply Tot.of (qaa rfl) | (apply Tot.lss_t; omega) | (apply Tot.lss_f; omega))))
    (refine Tot.of_eq ?_; (conv => lhs; simp (disch := first | omega | assumption) only [qa5, qbb, qbe]); exact hq)
theorem s60 (A : St) (rows : List (List Str)) (hl : rows.flatten.length ≤ 1000000) (hrl : rows.length ≤ 100000000) :
    ∃ b', AccOk b' 1 (rows.flatten.map D.str) ∧ f60 mL (Run Tryd.prog rxA) (Dcall Tryd.prog rxA) (encL 1 (rows.map sRow)) A = some (.ret (accD b' A.length 1 (rows.flatten.map D.str)), accA b' A (rows.flatten.map D.str)) := by
  obtain ⟨b', hb', hq⟩ := s60_sum A rows hl hrl rows 0 0 rfl (by omega) (by omega)
  refine ⟨b', hb', ?_⟩
  unfold f60
  refine Tot.eq ?_
  (repeat' first | (with_reducible first | apply Tot.of (st_it rfl)) | ((conv => arg 2; arg 1; simp (disch := first | omega | assumption) only [len_encL, List.length_map]); (with_reducible first | apply Tot.of (qaa rfl))))
  (refine Tot.of_eq ?_; (conv => lhs; simp (disch := first | omega | assumption) only [qai]); exact hq)
end Go.Vm.Rx

/- The words of an expression: the reference's text. -/
namespace Go.Vm.Rx
open Go Go.Proofs P
set_option linter.unusedVariables false
set_option linter.unusedSimpArgs false
set_option linter.unusedSectionVars false
set_option maxRecDepth 10000
set_option maxHeartbeats 2000000
theorem s59 (r : Rx) (hr : r.Ok) (A : St) : f59 mL (Run Tryd.prog rxA) (Dcall Tryd.prog rxA) (encRx r) A = some (.ret (.int .i64 (r.binds : Nat)), A) := by
  have hl := hr.len
  unfold f59 Rx.binds
  refine Tot.eq ?_
  by_cases h5 : r.op = 5
  · rw [if_pos h5]
    (repeat' first | (with_reducible first | apply Tot.of (qa3 rfl) | apply Tot.of (qak rfl) | apply Tot.bql (b := true) | apply Tot.ift) | ((conv => arg 2; arg 1; simp (disch := first | omega | assumption) only [qaf, qa4, Nat.add_zero, qai, qa9, ldc0, rx_box]); (with_reducible first | apply Tot.of (qaa rfl) | (apply Tot.eql_t; omega))))
    ((try conv => arg 2; simp (disch := first | omega | assumption) only [qac, qao, qaj, qad, qai, qag, qab, qae, List.take_left']); refine Tot.ret ?_)
    rfl
  · rw [if_neg h5]
    by_cases h4 : r.op = 4
    · by_cases h0 : r.ks = []
      · rw [if_neg (fun e => e.2 h0)]
        have h1 : r.ks.length = 0 := by rw [h0]; rfl
        (repeat' first | (with_reducible first | apply Tot.of (qa3 rfl) | apply Tot.of (qah rfl) | apply Tot.of (qak rfl) | apply Tot.gbl (b := true) | apply Tot.bql (b := true) | apply Tot.bql (b := false) | apply Tot.iff | apply Tot.iftt) | ((conv => arg 2; arg 1; simp (disch := first | omega | assumption) only [qa8, qaf, qa4, ofCellsS, Nat.zero_add, Nat.add_zero, qai, len_encL, qa9, ldc0, List.length_map, rx_box]); (with_reducible first | apply Tot.of (qaa rfl) | apply Tot.bql (b := false) | (apply Tot.gtr_f; omega) | (apply Tot.eql_t; omega) | (apply Tot.eql_f; omega))))
        ((try conv => arg 2; simp (disch := first | omega | assumption) only [qac, qao, qaj, qad, qai, qag, qab, qae, List.take_left']); refine Tot.ret ?_)
        rfl
      · rw [if_pos ⟨h4, h0⟩]
        have h1 : 0 < r.ks.length := List.length_pos_iff.2 h0
        (repeat' first | (with_reducible first | apply Tot.of (qa3 rfl) | apply Tot.of (qah rfl) | apply Tot.of (qak rfl) | apply Tot.gbl (b := true) | apply Tot.bql (b := true) | apply Tot.bql (b := false) | apply Tot.ift | apply Tot.iff | apply Tot.iftt) | ((conv => arg 2; arg 1; simp (disch := first | omega | assumption) only [qa8, qaf, qa4, ofCellsS, Nat.zero_add, Nat.add_zero, qai, len_encL, qa9, ldc0, List.length_map, rx_box]); (with_reducible first | apply Tot.of (qaa rfl) | apply Tot.bql (b := true) | (apply Tot.gtr_t; omega) | (apply Tot.eql_t; omega) | (apply Tot.eql_f; omega))))
        ((try conv => arg 2; simp (disch := first | omega | assumption) only [qac, qao, qaj, qad, qai, qag, qab, qae, List.take_left']); refine Tot.ret ?_)
        rfl
    · rw [if_neg (fun e => h4 e.1)]
      (repeat' first | (with_reducible first | apply Tot.of (qaa rfl) | apply Tot.of (qa3 rfl) | apply Tot.of (qah rfl) | apply Tot.of (qak rfl) | apply Tot.gbl (b := false) | apply Tot.bql (b := false) | apply Tot.iff | apply Tot.ifft) | ((conv => arg 2; arg 1; simp (disch := first | omega | assumption) only [qaw, qaf, qa4, Nat.add_zero, qai, qa9, ldc0, rx_box]); (with_reducible first | apply Tot.of (qaa rfl) | apply Tot.bql (b := false) | (apply Tot.eql_f; omega))))
      ((try conv => arg 2; simp (disch := first | omega | assumption) only [qac, qao, qaj, qad, qai, qag, qab, qae, List.take_left']); refine Tot.ret ?_)
      rfl
theorem body_dev {r : Rx} (h : r.op = 1) : r.body = [r.nm] := by
  obtain ⟨op, nm, ks⟩ := r
  cases (h : op = 1)
  rfl
theorem body_cls {r : Rx} (h : r.op = 2) : r.body = [[36], r.nm] := by
  obtain ⟨op, nm, ks⟩ := r
  cases (h : op = 2)
  rfl
theorem body_any {r : Rx} (h : r.op = 3) : r.body = [[46]] := by
  obtain ⟨op, nm, ks⟩ := r
  cases (h : op = 3)
  rfl
theorem body_emp {r : Rx} (h : r.op = 4) (h2 : r.ks = []) : r.body = [[40], [41]] := by
  obtain ⟨op, nm, ks⟩ := r
  cases (h : op = 4)
  cases (h2 : ks = [])
  rfl
theorem body_seq {r : Rx} (h : r.op = 4) (h2 : r.ks ≠ []) : r.body = Rx.seqs r.ks := by
  obtain ⟨op, nm, ks⟩ := r
  cases (h : op = 4)
  cases ks with
  | nil => exact absurd rfl h2
  | cons k ks => rfl
theorem body_alt {r : Rx} (h : r.op = 5) : r.body = Rx.alts r.ks := by
  obtain ⟨op, nm, ks⟩ := r
  cases (h : op = 5)
  rfl
theorem body_rep {r k : Rx} (h : r.op = 6 ∨ r.op = 7 ∨ r.op = 8) (h2 : r.ks = [k]) : r.body = k.say 3 ++ [markOf r.op] := by
  obtain ⟨op, nm, ks⟩ := r
  cases (h2 : ks = [k])
  rcases h with h | h | h
  · cases (h : op = 6); rfl
  · cases (h : op = 7); rfl
  · cases (h : op = 8); rfl
/-- which kinds stand in parentheses -/
def RSpec (r : Rx) (c : Nat) (a b : Int) : Prop := ∀ A, Tot (RowOut A 1 ((r.say c).map .str)) (f41 mL (Run Tryd.prog rxA) (Dcall Tryd.prog rxA) (encRx r) (.int .i64 a) (.int .i64 b) A)
theorem RSpec.get {r : Rx} {c : Nat} {a b : Int} (h : RSpec r c a b) (A : St) : ∃ o, AccOk o 1 ((r.say c).map .str) ∧ f41 mL (Run Tryd.prog rxA) (Dcall Tryd.prog rxA) (encRx r) (.int .i64 a) (.int .i64 b) A = some (.ret (accD o A.length 1 ((r.say c).map .str)), accA o A ((r.say c).map .str)) := by
  obtain ⟨_, h1, o, ho, rfl⟩ := h A
  exact ⟨o, ho, h1⟩
theorem say_len (r : Rx) (c : Nat) : (r.say c).length ≤ 5 * r.size := by
  have h1 := Rx.body_len r
  have h2 := wrap_len c r r.body
  unfold Rx.say
  omega
theorem kid_size {r k : Rx} (h : k ∈ r.ks) : k.size < r.size := by
  have := ins_kid h
  have h1 := Rx.size_eq r
  have hp := Rx.size_pos k
  unfold Rx.ins at this
  split at this
  · rename_i e; rw [e] at h; cases h
  · omega
end Go.Vm.Rx

/- The words of an expression: all of the reference's text. -/
namespace Go.Vm.Rx
open Go Go.Proofs P
set_option linter.unusedVariables false
set_option linter.unusedSimpArgs false
set_option linter.unusedSectionVars false
set_option maxRecDepth 10000
set_option maxHeartbeats 4000000
theorem lit_out {A L : St} {s0 : Slot} (ws : List Str) : Tot (RowOut A 1 (ws.map .str)) (leaveD RetK.own A (.ret (.sl .full 1 (ws.map .str))) (A ++ s0 :: L)) := (Grow.lit A s0 1 L (ws.map .str)).out (plainStrs ws)
theorem say_wrap {r : Rx} {c : Nat} (h : r.binds < c) : r.say c = [[40]] ++ r.body ++ [[41]] := by unfold Rx.say wrapR; rw [if_pos h]; rfl
theorem say_bare {r : Rx} {c : Nat} (h : ¬ r.binds < c) : r.say c = r.body := by unfold Rx.say wrapR; rw [if_neg h]
end Go.Vm.Rx

/- The words of an expression: the program's text. -/
namespace Go.Vm.Rx
open Go Go.Proofs P
set_option linter.unusedVariables false
set_option linter.unusedSimpArgs false
set_option linter.unusedSectionVars false
set_option maxRecDepth 10000
set_option maxHeartbeats 4000000
def SSpec (r : Rx) (c : Nat) : Prop := ∀ A, Tot (RowOut A 1 ((r.say c).map .str)) (f39 mL (Run Tryd.prog rxA) (Dcall Tryd.prog rxA) (encRx r) (.int .i64 (c : Nat)) A)
theorem SSpec.get {r : Rx} {c : Nat} (h : SSpec r c) (A : St) {c' : Int} (hc : (c : Int) = c') : ∃ o, AccOk o 1 ((r.say c).map .str) ∧ f39 mL (Run Tryd.prog rxA) (Dcall Tryd.prog rxA) (encRx r) (.int .i64 c') A = some (.ret (accD o A.length 1 ((r.say c).map .str)), accA o A ((r.say c).map .str)) := by
  subst hc
  obtain ⟨_, h1, o, ho, rfl⟩ := h A
  exact ⟨o, ho, h1⟩
theorem get_new (S : St) (s : Slot) : (S ++ [s])[S.length]? = some s := by simp
/-- the loop over a sequence's parts -/
theorem s39_seqs (r : Rx) (hr : r.Ok) (hs : r.size ≤ 1000) (hk : ∀ k, k ∈ r.ks → SSpec k 2) (A : St) (s0 : Slot) : ∀ (t : List Rx) (i : Nat) (S : St) (d : D) (acc : List Str), r.ks.drop i = t → Grow A s0 1 S d (acc.map .str) → acc.length + 5 * Rx.sizes t ≤ 10000 →
    Tot (RowOut A 1 ((acc ++ Rx.seqs t).map .str)) (iterK (f39_s1 mL (Run Tryd.prog rxA) (Dcall Tryd.prog rxA) A) (Env.mk (sp [(5, d), (59, encL 3 (r.ks.map encRx)), (0, .int .i64 (r.ks.length : Nat)), (0, .int .i64 (i : Nat))] 23) []) S) := by
  intro t
  have hl := hr.len
  induction t with
  | nil =>
    intro i S d acc ht hg hb
    have h1 := drop_len ht
    have ho := hg.out (plainStrs acc)
    refine Tot.iter ?_
    conv => arg 2; arg 1; unfold f39_s1
    (repeat' first | (with_reducible first | apply Tot.of (qaq rfl) | apply Tot.of (qba rfl) | apply Tot.of (qah rfl) | apply Tot.of (qa0 rfl) | apply Tot.bql (b := false) | apply Tot.iff) | ((conv => arg 2; arg 1; simp (disch := first | omega | assumption) only [Option.map_some, qal, qa5, qbb, qbe]); (with_reducible first | apply Tot.of (qaa rfl) | (apply Tot.lss_f; omega))))
    obtain ⟨x, hx, hx2⟩ := ho
    refine ⟨x, ?_, by simpa [Rx.seqs] using hx2⟩
    conv => lhs; simp (disch := first | omega | assumption) only [bn_some, Sum.elim_inr, hx]
  | cons k t ih =>
    intro i S d acc ht hg hb
    have h1 := drop_lt ht
    have hx := idx_drop (f := encRx) ht 3 true .i64
    obtain ⟨o, ho, hcall⟩ := (hk k (drop_mem ht)).get (S ++ [.cells [.int .i64 k.op, .str k.nm, encL 3 (k.ks.map encRx)]]) (c' := 2) rfl
    have hlen := say_len k 2
    simp only [Rx.sizes] at hb
    obtain ⟨d', S', hap, hg', _⟩ := ((hg.more [.cells [.int .i64 k.op, .str k.nm, encL 3 (k.ks.map encRx)]]).accA o ((k.say 2).map .str)).app0 (w := 16) (appendNew_acc (c := (S ++ [Slot.cells [.int .i64 k.op, .str k.nm, encL 3 (k.ks.map encRx)]]).length) ho) (by simp only [List.length_map]; omega) (by omega)
    rw [← List.map_append] at hg'
    have := ih (i + 1) S' d' (acc ++ k.say 2) (drop_succ ht) hg' (by rw [List.length_append]; omega)
    have e : acc ++ Rx.seqs (k :: t) = acc ++ k.say 2 ++ Rx.seqs t := by simp [Rx.seqs, Rx.say]
    rw [e]
    generalize accA o (S ++ [.cells [.int .i64 k.op, .str k.nm, encL 3 (k.ks.map encRx)]]) ((k.say 2).map .str) = S0 at *
    generalize accD o (S ++ [Slot.cells [.int .i64 k.op, .str k.nm, encL 3 (k.ks.map encRx)]]).length 1 ((k.say 2).map .str) = d0 at *
    refine Tot.iter ?_
    conv => arg 2; arg 1; unfold f39_s1
    (repeat' first | (with_reducible first | apply Tot.of (qaa rfl) | apply Tot.of (qaq rfl) | apply Tot.of (qa3 rfl) | apply Tot.of (qah rfl) | apply Tot.of (qav rfl) | apply Tot.of (qas rfl) | apply Tot.of (st_inl rfl) | apply Tot.bql (b := true) | apply Tot.ift) | ((conv => arg 2; arg 1; simp (disch := first | omega | assumption) only [binO_add, qbi, qbf, qa6, ofA3, qa5, qbb, qbe, qaz, qai, qag, qa9, ldc0, sto_sh0, stoc0, hx, rx_cell, qbd, qa7, rx_lay, r39, hcall, hap]); (with_reducible first | apply Tot.of (qaa rfl) | (apply Tot.lss_t; omega))))
    conv => arg 2; simp (disch := first | omega | assumption) only [qa5, qbb, qbe]
    exact this
/-- the loop over the ways of a choice -/
theorem s39_alts (r : Rx) (hr : r.Ok) (hs : r.size ≤ 1000) (hk : ∀ k, k ∈ r.ks → SSpec k 2) (A : St) (s0 : Slot) : ∀ (t : List Rx) (i : Nat) (S : St) (d : D) (acc : List Str), r.ks.drop i = t → Grow A s0 1 S d (acc.map .str) → acc.length + 5 * Rx.sizes t ≤ 10000 →
    Tot (RowOut A 1 ((acc ++ (if i = 0 then Rx.alts t else Rx.altF t)).map .str)) (iterK (f39_s0 mL (Run Tryd.prog rxA) (Dcall Tryd.prog rxA) A) (Env.mk (sp [(5, d), (33, encL 3 (r.ks.map encRx)), (0, .int .i64 (r.ks.length : Nat)), (0, .int .i64 (i : Nat))] 49) []) S) := by
  intro t
  have hl := hr.len
  induction t with
  | nil =>
    intro i S d acc ht hg hb
    have h1 := drop_len ht
    have ho := hg.out (plainStrs acc)
    refine Tot.iter ?_
    conv => arg 2; arg 1; unfold f39_s0
    (repeat' first | (with_reducible first | apply Tot.of (qaq rfl) | apply Tot.of (qba rfl) | apply Tot.of (qah rfl) | apply Tot.of (qa0 rfl) | apply Tot.bql (b := false) | apply Tot.iff) | ((conv => arg 2; arg 1; simp (disch := first | omega | assumption) only [Option.map_some, qal, qa5, qbb, qbe]); (with_reducible first | apply Tot.of (qaa rfl) | (apply Tot.lss_f; omega))))
    obtain ⟨x, hx, hx2⟩ := ho
    refine ⟨x, ?_, by split <;> simpa [Rx.alts, Rx.altF] using hx2⟩
    conv => lhs; simp (disch := first | omega | assumption) only [bn_some, Sum.elim_inr, hx]
  | cons k t ih =>
    intro i S d acc ht hg hb
    have h1 := drop_lt ht
    have hx := idx_drop (f := encRx) ht 3 true .i64
    have hlen := say_len k 2
    simp only [Rx.sizes] at hb
    have hb2 := Rx.body_len k
    have hb3 := wrap_len 2 k k.body
    have hgm := hg.more [.cells [.int .i64 k.op, .str k.nm, encL 3 (k.ks.map encRx)]]
    by_cases h0 : i = 0
    · subst h0
      obtain ⟨o, ho, hcall⟩ := (hk k (drop_mem ht)).get (S ++ [.cells [.int .i64 k.op, .str k.nm, encL 3 (k.ks.map encRx)]]) (c' := 2) rfl
      obtain ⟨d', S', hap, hg', _⟩ := (hgm.accA o ((k.say 2).map .str)).app0 (w := 16) (appendNew_acc (c := (S ++ [Slot.cells [.int .i64 k.op, .str k.nm, encL 3 (k.ks.map encRx)]]).length) ho) (by simp only [List.length_map]; omega) (by omega)
      rw [← List.map_append] at hg'
      have := ih 1 S' d' (acc ++ k.say 2) (drop_succ ht) hg' (by rw [List.length_append]; omega)
      have e : acc ++ Rx.alts (k :: t) = acc ++ k.say 2 ++ Rx.altF t := by simp [Rx.alts, Rx.say]
      rw [if_pos rfl, e]
      rw [if_neg (by omega)] at this
      rw [Int.natCast_zero] at hx ⊢
      generalize accA o (S ++ [.cells [.int .i64 k.op, .str k.nm, encL 3 (k.ks.map encRx)]]) ((k.say 2).map .str) = S0 at *
      generalize accD o (S ++ [Slot.cells [.int .i64 k.op, .str k.nm, encL 3 (k.ks.map encRx)]]).length 1 ((k.say 2).map .str) = d0 at *
      refine Tot.iter ?_
      conv => arg 2; arg 1; unfold f39_s0
      (repeat' first | (with_reducible first | apply Tot.of (qaa rfl) | apply Tot.of (qaq rfl) | apply Tot.of (qa3 rfl) | apply Tot.of (qah rfl) | apply Tot.of (qav rfl) | apply Tot.of (st_bnsum rfl) | apply Tot.of (qas rfl) | apply Tot.of (st_inl rfl) | apply Tot.bql (b := true) | apply Tot.bql (b := false) | apply Tot.ift | apply Tot.iff) | ((conv => arg 2; arg 1; simp (disch := first | omega | assumption) only [binO_add, qbi, qbf, qa6, ofA3, qa5, qbb, qbe, qaz, qai, qag, qa9, ldc0, sto_sh0, stoc0, Int.reduceAdd, hx, rx_cell, qbd, qa7, rx_lay, r39, hcall, hap]); (with_reducible first | apply Tot.of (qaa rfl) | (apply Tot.lss_t; omega) | (apply Tot.gtr_f; omega))))
      conv => arg 2; simp (disch := first | omega | assumption) only [qa5, qbb, qbe]
      exact this
    · obtain ⟨d1, S1, hap1, hg1, hkp⟩ := hgm.app0 (y := .sl .full 1 [.str [124]]) (new := [.str [124]]) (w := 16) rfl (by simp; omega) (by omega)
      have hld := fun gg m off => load_get (hkp S.length _ (get_new S _)) (gg := gg) (m := m) (off := off)
      obtain ⟨o, ho, hcall⟩ := (hk k (drop_mem ht)).get S1 (c' := 2) rfl
      have e1 : List.map D.str acc ++ [D.str [124]] = (acc ++ [[124]]).map .str := by simp
      rw [e1] at hg1
      obtain ⟨d', S', hap, hg', _⟩ := (hg1.accA o ((k.say 2).map .str)).app0 (w := 16) (appendNew_acc (c := S1.length) ho) (by simp only [List.length_map, List.length_append, List.length_cons, List.length_nil]; omega) (by omega)
      rw [← List.map_append] at hg'
      have := ih (i + 1) S' d' (acc ++ [[124]] ++ k.say 2) (drop_succ ht) hg' (by simp only [List.length_append, List.length_cons, List.length_nil]; unfold Rx.say at *; omega)
      have e : acc ++ Rx.altF (k :: t) = acc ++ [[124]] ++ k.say 2 ++ Rx.altF t := by simp [Rx.altF, Rx.say]
      rw [if_neg h0, e]
      rw [if_neg (by omega)] at this
      refine Tot.iter ?_
      conv => arg 2; arg 1; unfold f39_s0
      (repeat' first | (with_reducible first | apply Tot.of (qaa rfl) | apply Tot.of (qaq rfl) | apply Tot.of (qba rfl) | apply Tot.of (qa3 rfl) | apply Tot.of (qah rfl) | apply Tot.of (qav rfl) | apply Tot.of (st_bnsum rfl) | apply Tot.of (qas rfl) | apply Tot.of (st_inl rfl) | apply Tot.bql (b := true) | apply Tot.ift) | ((conv => arg 2; arg 1; simp (disch := first | omega | assumption) only [binO_add, qbi, qbf, qa6, ofA3, qa5, qbb, qbe, qaz, qai, qag, sto_sh0, stoc0, sparts_str, hld, hx, rx_cell, qbd, qa7, rx_lay, r39, hcall, hap1, hap]); (with_reducible first | apply Tot.of (qaa rfl) | (apply Tot.lss_t; omega) | (apply Tot.gtr_t; omega))))
      conv => arg 2; simp (disch := first | omega | assumption) only [qa5, qbb, qbe]
      exact this
/-- an expression that does not stand in parentheses -/
theorem s39_body (r : Rx) (hr : r.Ok) (hs : r.size ≤ 1000) (hrt : r.right = true) (hk2 : ∀ k, k ∈ r.ks → SSpec k 2) (hk3 : ∀ k, k ∈ r.ks → SSpec k 3) (c : Nat) (hc : ¬ r.binds < c) (A : St) :
    Tot (RowOut A 1 (r.body.map .str)) (f39 mL (Run Tryd.prog rxA) (Dcall Tryd.prog rxA) (encRx r) (.int .i64 (c : Nat)) A) := by
  have hl := hr.len
  rw [Rx.right_eq, Bool.and_eq_true] at hrt
  obtain ⟨hn, _⟩ := hrt
  have hbd := fun A => s59 r hr A
  have hsp1 : sliceParts 1 false 0 [(0, .str [46])] = some [.str [46]] := rfl
  unfold f39
  rcases nodeOk_cases hn with ⟨h0 | h0, hnm, hks⟩ | ⟨h0, hnm, hks⟩ | ⟨h0, hnm, h2, h3⟩ | ⟨h0, hnm, h2, h3⟩ | ⟨h0, hnm, k, hks⟩
  · rw [body_dev h0]
    have ho := lit_out (A := A) (s0 := .cells [.int .i64 r.op, .str r.nm, encL 3 (r.ks.map encRx)]) (L := []) [r.nm]
    simp only [List.map_cons, List.map_nil] at ho ⊢
    (repeat' first | (with_reducible first | apply Tot.of (qba rfl) | apply Tot.of (qa3 rfl) | apply Tot.of (qas rfl) | apply Tot.of (qak rfl) | apply Tot.bql (b := true) | apply Tot.bql (b := false) | apply Tot.ift | apply Tot.iff | (apply Tot.lss_f; omega)) | ((conv => arg 2; arg 1; simp (disch := first | omega | assumption) only [qaf, qa4, ofCellsS, Nat.zero_add, Nat.add_zero, ofA3, qai, qa9, ldc0, sparts_str, rx_box, qbd, qa7, r59, hbd]); (with_reducible first | apply Tot.of (qaa rfl) | (apply Tot.eql_t; omega))))
    all_goals (conv => arg 2; simp (disch := first | omega | assumption) only [])
    all_goals exact ho
  · rw [body_cls h0]
    have ho := lit_out (A := A) (s0 := .cells [.int .i64 r.op, .str r.nm, encL 3 (r.ks.map encRx)]) (L := []) [[36], r.nm]
    simp only [List.map_cons, List.map_nil] at ho ⊢
    (repeat' first | (with_reducible first | apply Tot.of (qba rfl) | apply Tot.of (qa3 rfl) | apply Tot.of (qas rfl) | apply Tot.of (qak rfl) | apply Tot.bql (b := true) | apply Tot.bql (b := false) | apply Tot.ift | apply Tot.iff | (apply Tot.lss_f; omega)) | ((conv => arg 2; arg 1; simp (disch := first | omega | assumption) only [qaf, qa4, ofCellsS, Nat.zero_add, Nat.add_zero, ofA3, qai, qa9, ldc0, sparts_str2, rx_box, qbd, qa7, r59, hbd]); (with_reducible first | apply Tot.of (qaa rfl) | (apply Tot.eql_t; omega) | (apply Tot.eql_f; omega))))
    all_goals (conv => arg 2; simp (disch := first | omega | assumption) only [])
    all_goals exact ho
  · rw [body_any h0]
    have ho := lit_out (A := A) (s0 := .cells [.int .i64 r.op, .str r.nm, encL 3 (r.ks.map encRx)]) (L := []) [[46]]
    simp only [List.map_cons, List.map_nil] at ho ⊢
    (repeat' first | (with_reducible first | apply Tot.of (qba rfl) | apply Tot.of (qa3 rfl) | apply Tot.of (qas rfl) | apply Tot.of (qak rfl) | apply Tot.bql (b := true) | apply Tot.bql (b := false) | apply Tot.ift | apply Tot.iff | (apply Tot.lss_f; omega)) | ((conv => arg 2; arg 1; simp (disch := first | omega | assumption) only [qaf, qa4, Nat.add_zero, ofA3, qai, qa9, ldc0, sparts_str, rx_box, qbd, qa7, r59, hbd]); (with_reducible first | apply Tot.of (qaa rfl) | (apply Tot.eql_t; omega) | (apply Tot.eql_f; omega))))
    all_goals (conv => arg 2; simp (disch := first | omega | assumption) only [])
    all_goals exact ho
  · by_cases hks : r.ks = []
    · rw [body_emp h0 hks]
      have hl0 : r.ks.length = 0 := by rw [hks]; rfl
      have ho := lit_out (A := A) (s0 := .cells [.int .i64 r.op, .str r.nm, encL 3 (r.ks.map encRx)]) (L := []) [[40], [41]]
      simp only [List.map_cons, List.map_nil] at ho ⊢
      (repeat' first | (with_reducible first | apply Tot.of (qba rfl) | apply Tot.of (qa3 rfl) | apply Tot.of (qas rfl) | apply Tot.of (qak rfl) | apply Tot.bql (b := true) | apply Tot.bql (b := false) | apply Tot.ift | apply Tot.iff | (apply Tot.lss_f; omega)) | ((conv => arg 2; arg 1; simp (disch := first | omega | assumption) only [qaf, qa4, ofCellsS, Nat.zero_add, Nat.add_zero, ofA3, qai, len_encL, qa9, ldc0, sparts_str2, List.length_map, rx_box, qbd, qa7, r59, hbd]); (with_reducible first | apply Tot.of (qaa rfl) | (apply Tot.eql_t; omega) | (apply Tot.eql_f; omega))))
      all_goals (conv => arg 2; simp (disch := first | omega | assumption) only [])
      all_goals exact ho
    · rw [body_seq h0 hks]
      have hl0 : 0 < r.ks.length := List.length_pos_iff.2 hks
      have hsz := Rx.size_eq r
      have hlo := s39_seqs r hr hs hk2 A _ r.ks 0 _ _ [] rfl (Grow.nil A (.cells [.int .i64 r.op, .str r.nm, encL 3 (r.ks.map encRx)]) 1 []) (by simp; omega)
      (repeat' first | (with_reducible first | apply Tot.of (qa3 rfl) | apply Tot.of (qas rfl) | apply Tot.of (st_it rfl) | apply Tot.bql (b := true) | apply Tot.bql (b := false) | apply Tot.ift | apply Tot.iff | (apply Tot.lss_f; omega)) | ((conv => arg 2; arg 1; simp (disch := first | omega | assumption) only [qaf, qa4, ofCellsS, Nat.zero_add, Nat.add_zero, ofA3, qai, len_encL, qa9, ldc0, List.length_map, rx_box, qbd, qa7, r59, hbd]); (with_reducible first | apply Tot.of (qaa rfl) | (apply Tot.eql_t; omega) | (apply Tot.eql_f; omega))))
      all_goals (conv => arg 2; simp (disch := first | omega | assumption) only [qai])
      all_goals exact hlo
  · rw [body_alt h0]
    have hks : r.ks ≠ [] := by intro e; rw [e] at h2; simp at h2
    have hl0 : 0 < r.ks.length := List.length_pos_iff.2 hks
    have hsz := Rx.size_eq r
    have hlo := s39_alts r hr hs hk2 A _ r.ks 0 _ _ [] rfl (Grow.nil A (.cells [.int .i64 r.op, .str r.nm, encL 3 (r.ks.map encRx)]) 1 []) (by simp; omega)
    (repeat' first | (with_reducible first | apply Tot.of (qa3 rfl) | apply Tot.of (qas rfl) | apply Tot.of (st_it rfl) | apply Tot.bql (b := true) | apply Tot.bql (b := false) | apply Tot.ift | apply Tot.iff | (apply Tot.lss_f; omega)) | ((conv => arg 2; arg 1; simp (disch := first | omega | assumption) only [qaf, qa4, ofCellsS, Nat.zero_add, Nat.add_zero, ofA3, qai, len_encL, qa9, ldc0, List.length_map, rx_box, qbd, qa7, r59, hbd]); (with_reducible first | apply Tot.of (qaa rfl) | (apply Tot.eql_t; omega) | (apply Tot.eql_f; omega))))
    all_goals (conv => arg 2; simp (disch := first | omega | assumption) only [qai])
    all_goals exact hlo
  · rw [body_rep h0 hks]
    have hne : r.ks ≠ [] := by rw [hks]; simp
    have hkm : k ∈ r.ks := by rw [hks]; simp
    have hlen := say_len k 3
    have hkz := kid_size hkm
    have hx := idx_drop (f := encRx) (l := r.ks) (i := 0) (x := k) (t := []) (by rw [hks]; rfl) 3 true .i64
    rw [Int.natCast_zero] at hx
    have hm1 : sliceParts 1 false 0 [(0, .str [42])] = some [.str [42]] := rfl
    have hm2 : sliceParts 1 false 0 [(0, .str [43])] = some [.str [43]] := rfl
    have hm3 : sliceParts 1 false 0 [(0, .str [63])] = some [.str [63]] := rfl
    obtain ⟨o, ho, hcall⟩ := (hk3 k hkm).get (A ++ [.cells [.int .i64 r.op, .str r.nm, encL 3 (r.ks.map encRx)]]) (c' := 3) rfl
    have hg := Grow.acc (A := A) (s0 := .cells [.int .i64 r.op, .str r.nm, encL 3 (r.ks.map encRx)]) (L := []) ho
    have hbx := fun gg m off => hg.box (gg := gg) (m := m) (off := off)
    obtain ⟨d', S', hap, hg', _⟩ := hg.app0 (y := .sl .full 1 [.str (markOf r.op)]) (new := [.str (markOf r.op)]) (w := 16) rfl (by simp only [List.length_map, List.length_cons, List.length_nil]; omega) (by omega)
    have e : List.map D.str (k.say 3 ++ [markOf r.op]) = List.map D.str (k.say 3) ++ [D.str (markOf r.op)] := by simp
    have hout := hg'.out (by rw [← e]; exact plainStrs _)
    rw [← e] at hout
    generalize k.say 3 = ws at *
    generalize accA o (A ++ [.cells [.int .i64 r.op, .str r.nm, encL 3 (r.ks.map encRx)]]) (ws.map .str) = S1 at *
    generalize accD o (A ++ [Slot.cells [.int .i64 r.op, .str r.nm, encL 3 (r.ks.map encRx)]]).length 1 (ws.map .str) = d1 at *
    rcases h0 with h0 | h0 | h0
    · have em : markOf r.op = [42] := by rw [h0]; rfl
      rw [em] at hap hout ⊢
      (repeat' first | (with_reducible first | apply Tot.of (qaa rfl) | apply Tot.of (qaq rfl) | apply Tot.of (qba rfl) | apply Tot.of (qa3 rfl) | apply Tot.of (qah rfl) | apply Tot.of (st_bnsum rfl) | apply Tot.of (qas rfl) | apply Tot.of (st_inl rfl) | apply Tot.of (qak rfl) | apply Tot.bql (b := false) | apply Tot.iff | (apply Tot.lss_f; omega)) | ((conv => arg 2; arg 1; simp (disch := first | omega | assumption) only [Option.map_some, qal, qaf, qbf, qa4, ofCellsS, Nat.zero_add, Nat.add_zero, ofA3, qa5, qbb, qbe, qaz, qai, qag, qa9, ldc0, sparts_str, rx_box, rx_cell, hx, qbd, qa7, r59, hbd, r39, hcall, hap]); (with_reducible first | apply Tot.of (qaa rfl) | (apply Tot.eql_f; omega))))
      all_goals (conv => arg 2; simp (disch := first | omega | assumption) only [])
      all_goals exact hout
    · have em : markOf r.op = [43] := by rw [h0]; rfl
      rw [em] at hap hout ⊢
      (repeat' first | (with_reducible first | apply Tot.of (qaa rfl) | apply Tot.of (qba rfl) | apply Tot.of (qa3 rfl) | apply Tot.of (qah rfl) | apply Tot.of (qas rfl) | apply Tot.of (st_inl rfl) | apply Tot.of (qak rfl) | apply Tot.bql (b := true) | apply Tot.bql (b := false) | apply Tot.ift | apply Tot.iff | (apply Tot.lss_f; omega)) | ((conv => arg 2; arg 1; simp (disch := first | omega | assumption) only [Option.map_some, qal, qaf, qbf, qa4, ofCellsS, Nat.zero_add, Nat.add_zero, ofA3, qa5, qbb, qbe, qaz, qai, qag, qa9, ldc0, sparts_str, rx_box, rx_cell, hx, qbd, qa7, r59, hbd, r39, hcall, hap]); (with_reducible first | apply Tot.of (qaa rfl) | (apply Tot.eql_t; omega) | (apply Tot.eql_f; omega))))
      all_goals (conv => arg 2; simp (disch := first | omega | assumption) only [])
      all_goals exact hout
    · have em : markOf r.op = [63] := by rw [h0]; rfl
      rw [em] at hap hout ⊢
      (repeat' first | (with_reducible first | apply Tot.of (qaa rfl) | apply Tot.of (qaq rfl) | apply Tot.of (qba rfl) | apply Tot.of (qa3 rfl) | apply Tot.of (qah rfl) | apply Tot.of (st_bnsum rfl) | apply Tot.of (qas rfl) | apply Tot.of (st_inl rfl) | apply Tot.of (qak rfl) | apply Tot.bql (b := true) | apply Tot.bql (b := false) | apply Tot.ift | apply Tot.iff | (apply Tot.lss_f; omega)) | ((conv => arg 2; arg 1; simp (disch := first | omega | assumption) only [Option.map_some, qal, qaf, qbf, qa4, ofCellsS, Nat.zero_add, Nat.add_zero, ofA3, qa5, qbb, qbe, qaz, qai, qag, qa9, ldc0, sparts_str, rx_box, rx_cell, hx, qbd, qa7, r59, hbd, r39, hcall, hap]); (with_reducible first | apply Tot.of (qaa rfl) | (apply Tot.eql_t; omega) | (apply Tot.eql_f; omega))))
      all_goals (conv => arg 2; simp (disch := first | omega | assumption) only [])
      all_goals exact hout
/-- an expression in parentheses -/
theorem s39_wrap (r : Rx) (hr : r.Ok) (hs : r.size ≤ 1000) (hb : SSpec r 1) (c : Nat) (hc : r.binds < c) (A : St) :
    Tot (RowOut A 1 (([[40]] ++ r.body ++ [[41]]).map .str)) (f39 mL (Run Tryd.prog rxA) (Dcall Tryd.prog rxA) (encRx r) (.int .i64 (c : Nat)) A) := by
  have hl := hr.len
  have hlen := say_len r 1
  have hbd := fun A => s59 r hr A
  have hsay : r.say 1 = r.body := say_bare (by unfold Rx.binds; split <;> first | omega | (split <;> omega))
  obtain ⟨o, ho, hcall⟩ := hb.get (A ++ [.cells [.int .i64 r.op, .str r.nm, encL 3 (r.ks.map encRx)]]) (c' := 1) rfl
  rw [hsay] at hlen ho hcall
  have hg := Grow.acc (A := A) (s0 := .cells [.int .i64 r.op, .str r.nm, encL 3 (r.ks.map encRx)]) (L := []) ho
  have hsp0 : sliceParts 1 false 0 [(0, .str [40])] = some [.str [40]] := rfl
  have hsp1 : sliceParts 1 false 0 [(0, .str [41])] = some [.str [41]] := rfl
  have hsp3 : sliceParts 1 false 0 [(0, .sl .full 1 [.str [40]]), (1, accD o (A ++ [Slot.cells [.int .i64 r.op, .str r.nm, encL 3 (r.ks.map encRx)]]).length 1 (r.body.map .str)), (2, .sl .full 1 [.str [41]])] =
      some [.sl .full 1 [.str [40]], accD o (A ++ [Slot.cells [.int .i64 r.op, .str r.nm, encL 3 (r.ks.map encRx)]]).length 1 (r.body.map .str), .sl .full 1 [.str [41]]] := by cases o <;> rfl
  have hcd := acc_canon (c := (A ++ [Slot.cells [.int .i64 r.op, .str r.nm, encL 3 (r.ks.map encRx)]]).length) ho (plainStrs r.body)
  obtain ⟨L, hL⟩ := hg.sto
  generalize accA o (A ++ [.cells [.int .i64 r.op, .str r.nm, encL 3 (r.ks.map encRx)]]) (r.body.map .str) = S0 at *
  generalize accD o (A ++ [Slot.cells [.int .i64 r.op, .str r.nm, encL 3 (r.ks.map encRx)]]).length 1 (r.body.map .str) = d0 at *
  have hcn : (D.sl .full 1 [.sl .full 1 [.str [40]], d0, .sl .full 1 [.str [41]]]).canon = encL 1 ([[[40]], r.body, [[41]]].map sRow) := by
    simp only [D.canon, D.canonL, hcd]
    rfl
  have hfl : ([[[40]], r.body, [[41]]] : List (List Str)).flatten = [[40]] ++ r.body ++ [[41]] := by simp
  obtain ⟨b', hb', hcat⟩ := s60 S0 [[[40]], r.body, [[41]]] (by rw [hfl]; simp only [List.length_append, List.length_cons, List.length_nil]; omega) (by simp)
  rw [hfl] at hb' hcat
  have hg2 := Grow.acc (A := A) (s0 := .cells [.int .i64 r.op, .str r.nm, encL 3 (r.ks.map encRx)]) (L := L) hb'
  rw [← hL] at hg2
  have hout := hg2.out (plainStrs _)
  unfold f39
  (repeat' first | (with_reducible first | apply Tot.of (qba rfl) | apply Tot.of (qa3 rfl) | apply Tot.of (qas rfl) | apply Tot.of (qak rfl) | apply Tot.bql (b := true) | apply Tot.ift | (apply Tot.lss_t; omega)) | ((conv => arg 2; arg 1; simp (disch := first | omega | assumption) only [ofA3, qai, qag, qa9, ldc0, sparts_str, rx_box, qbd, qa7, r59, hbd, r39, hcall, hsp3, r60, hcn, hcat]); (with_reducible first | apply Tot.of (qaa rfl))))
  all_goals (conv => arg 2; simp (disch := first | omega | assumption) only [])
  all_goals exact hout
theorem s39 : ∀ (r : Rx) (hr : r.Ok) (hs : r.size ≤ 1000) (hrt : r.right = true) (c : Nat), SSpec r c := by
  refine Rx.ind fun r ih hr hs hrt c A => ?_
  have hkr : ∀ k, k ∈ r.ks → k.right = true := by
    have := hrt
    rw [Rx.right_eq, Bool.and_eq_true] at this
    exact rights_mem this.2
  have hkk : ∀ c k, k ∈ r.ks → SSpec k c := fun c k hk => ih k hk (hr.kid hk) (by have := kid_size hk; omega) (hkr k hk) c
  have hbody := s39_body r hr hs hrt (hkk 2) (hkk 3)
  have hb1 : ¬ r.binds < 1 := by unfold Rx.binds; split <;> first | omega | (split <;> omega)
  by_cases h : r.binds < c
  · rw [say_wrap h]
    exact s39_wrap r hr hs (fun A => by rw [say_bare hb1]; exact hbody 1 hb1 A) c h A
  · rw [say_bare h]
    exact hbody c h A
end Go.Vm.Rx
