/- RxS35, RxS36, RxS37 in one text. -/
import Derived.Test.YtmaipfiikbcfmaaDoorRxS31
import Derived.Test.YtmaipfiikbcfmaaDoorRxW3
set_option linter.all false
/- One word, two words: what both texts say of them. -/
namespace Go.Vm.Rx
open Go Go.Proofs P
set_option linter.unusedVariables false
set_option linter.unusedSimpArgs false
set_option linter.unusedSectionVars false
set_option maxRecDepth 10000
set_option maxHeartbeats 2000000
theorem str_add {n : Nat} {l : Bool} {a b : Str} (h : a.length + b.length ≤ 9223372036854775807) : binO .add n l (.str a) (.str b) = some (.str (a ++ b)) := by simp [binO, strBinD, h]
theorem canon2 (a b : Str) : (D.sl .full 1 [.str a, .str b]).canon = encL 1 ([a, b].map .str) := rfl
theorem encL_c (n : Nat) (d : D) (ds : List D) : encL n (d :: ds) = .sl .sh n (d :: ds) := rfl
end Go.Vm.Rx

/- Is a text just some words? What the program says. -/
namespace Go.Vm.Rx
open Go Go.Proofs P
set_option linter.unusedVariables false
set_option linter.unusedSimpArgs false
set_option linter.unusedSectionVars false
set_option maxRecDepth 10000
set_option maxHeartbeats 2000000
theorem plainStrs (ws : List Str) : PlainL (ws.map .str) := PlainL.map (fun s => ⟨fun _ => rfl, rfl⟩) ws
theorem strs_shut (ws : List Str) (n m : Nat) : (encL n (ws.map .str)).shut m = encL n (ws.map .str) := (encL_plain (plainStrs ws) n).shut m
theorem row_shut (l : List Word) (m : Nat) : (encRow l).shut m = encRow l := (plainRow l).shut m
theorem s58_loop (A : St) (row : List Word) (want : List Str) (hn : row.length = want.length) (hl : row.length ≤ 100000000) : ∀ (t : List Word) (i : Nat), row.drop i = t →
    iterK (f58_s0 mL (Run Tryd.prog rxA) (Dcall Tryd.prog rxA) A) (Env.mk (sp [(1, encL 1 (want.map .str)), (34, encRow row), (0, .int .i64 (row.length : Nat)), (0, .int .i64 (i : Nat))] 12) []) A = some (.ret (.bool (decide (t.map Word.t = want.drop i))), A) := by
  intro t
  induction t with
  | nil =>
    intro i ht
    have h1 := drop_len ht
    have h2 : want.drop i = [] := List.drop_eq_nil_of_le (by omega)
    refine Tot.eq (Tot.iter ?_)
    conv => arg 2; arg 1; unfold f58_s0
    (repeat' first | (with_reducible first | apply Tot.of (qaq rfl) | apply Tot.of (qba rfl) | apply Tot.of (qah rfl) | apply Tot.of (st_inr rfl) | apply Tot.of (qa0 rfl) | apply Tot.bql (b := false) | apply Tot.iff) | ((conv => arg 2; arg 1; simp (disch := first | omega | assumption) only [qac, Option.map_some, qau, qa2, qad, qal, List.take_length, qa5, qbb, qbe, qap, qab, qae]); (with_reducible first | apply Tot.of (qaa rfl) | (apply Tot.lss_f; omega))))
    ((try conv => arg 2; simp (disch := first | omega | assumption) only []); refine Tot.ret ?_)
    rw [h2]; rfl
  | cons w t ih =>
    intro i ht
    have h1 := drop_lt ht
    obtain ⟨x, u, hu⟩ : ∃ x u, want.drop i = x :: u := by
      cases hu : want.drop i with
      | nil => have := drop_len hu; omega
      | cons x u => exact ⟨x, u, rfl⟩
    have hx := idx_drop (f := encW) ht 3 true .i64
    have hy := idx_drop (f := D.str) hu 1 false .i64
    have he : encRow row = encL 3 (row.map encW) := rfl
    have hlw : ∀ a b c, layCells true 3 0 [a, b, c] (.agg [.str w.t, .int .i64 w.line, .int .i64 w.col]) = some [.str w.t, .int .i64 w.line, .int .i64 w.col] := fun a b c => rfl
    have hof : ofCells true [D.str w.t, .int .i64 w.line, .int .i64 w.col] 0 3 = some (.agg [.str w.t, .int .i64 w.line, .int .i64 w.col]) := rfl
    refine Tot.eq (Tot.iter ?_)
    conv => arg 2; arg 1; unfold f58_s0
    rw [hu]
    by_cases hq : w.t = x
    · (repeat' first | (with_reducible first | apply Tot.of (qaa rfl) | apply Tot.of (qaq rfl) | apply Tot.of (qa3 rfl) | apply Tot.of (qah rfl) | apply Tot.of (st_bnguard rfl) | apply Tot.of (st_inl rfl) | apply Tot.of (st_guard rfl) | apply Tot.of (st_bngs rfl) | apply Tot.of (st_bngk rfl) | apply Tot.bql (b := true) | apply Tot.bql (b := false) | apply Tot.ift | apply Tot.iff | (apply Tot.sneq_t; first | assumption | with_reducible rfl)) | ((conv => arg 2; arg 1; simp (disch := first | omega | assumption) only [binO_add, qbi, qaj, qaf, qbf, qa4, Nat.add_zero, qa6, qa5, qbb, qbe, qaz, qai, cell_str, qa9, ldc0, sto_sh0, stoc0, he, hx, hy, cellW, cellsW, hlw, hof]); (with_reducible first | apply Tot.of (qaa rfl) | apply Tot.of (st_guard rfl) | (apply Tot.lss_t; omega))))
      (refine Tot.of_eq ?_; (conv => lhs; simp (disch := first | omega | assumption) only [qao, List.map_nil, qa5, qbb, qbe, List.take_left']); rw [strs_shut, row_shut]; have := ih (i + 1) (drop_succ ht); simp only [Int.natCast_add, Int.natCast_one] at this; rw [drop_succ hu] at this; rw [this]; simp [hq])
    · (repeat' first | (with_reducible first | apply Tot.of (qaq rfl) | apply Tot.of (qba rfl) | apply Tot.of (qa3 rfl) | apply Tot.of (qah rfl) | apply Tot.of (st_bnguard rfl) | apply Tot.of (st_inr rfl) | apply Tot.of (st_guard rfl) | apply Tot.of (st_bngs rfl) | apply Tot.of (qa0 rfl) | apply Tot.bql (b := true) | apply Tot.ift | (apply Tot.sneq_f; first | assumption | decide | exact List.cons_ne_nil _ _)) | ((conv => arg 2; arg 1; simp (disch := first | omega | assumption) only [qac, Option.map_some, qau, qaj, qad, qal, qaf, qbf, qa4, Nat.add_zero, qa6, qa5, qbb, qbe, qaz, qai, qap, qab, qae, cell_str, qa9, ldc0, sto_sh0, stoc0, List.take_left', he, hx, hy, cellW, cellsW, hlw, hof]); (with_reducible first | apply Tot.of (qaa rfl) | (apply Tot.lss_t; omega))))
      ((try conv => arg 2; simp (disch := first | omega | assumption) only []); refine Tot.ret ?_)
      simp [hq]
/-- is a text just these words, on one line? -/
def aloneP (want : List Str) : Except (Int × Int) (List (List Word)) → Bool
  | .ok [row] => decide (row.map Word.t = want)
  | _ => false
theorem s58 (s : Str) (want : List Str) (hs : s.length ≤ 1000000) (hl : want.length ≤ 1000000) (x : Except (Int × Int) (List (List Word))) (hx : textP s x) (A : St) : f58 mL (Run Tryd.prog rxA) (Dcall Tryd.prog rxA) (.str s) (encL 1 (want.map .str)) A = some (.ret (.bool (aloneP want x)), A) := by
  have hln := fun A => s26 s (by omega) x hx A
  unfold f58
  refine Tot.eq ?_
  rcases x with ⟨p, c⟩ | rows
  · simp only [linesRes] at hln
    (repeat' first | (with_reducible first | apply Tot.of (qaa rfl) | apply Tot.of (qa3 rfl) | apply Tot.of (qah rfl) | apply Tot.of (qas rfl) | apply Tot.of (qak rfl) | apply Tot.gbl (b := true) | apply Tot.bql (b := true) | apply Tot.ift | apply Tot.iftf) | ((conv => arg 2; arg 1; simp (disch := first | omega | assumption) only [qa8, qai, qam, ext0, extS, r26, hln]); (with_reducible first | apply Tot.of (qaa rfl) | apply Tot.gbl (b := true) | apply Tot.bql (b := true) | (apply Tot.neq_f; omega))))
    ((try conv => arg 2; simp (disch := first | omega | assumption) only [qac, qau, qa2, qad, List.take_length, qap, qab, qae]); refine Tot.ret ?_)
    rfl
  · have hrl := (textP_ok hx).1
    simp only [linesRes, List.nil_append] at hln
    rcases rows with _ | ⟨row, _ | ⟨row2, rows⟩⟩
    · (repeat' first | (with_reducible first | apply Tot.of (qaa rfl) | apply Tot.of (qa3 rfl) | apply Tot.of (qah rfl) | apply Tot.of (qas rfl) | apply Tot.of (qak rfl) | apply Tot.gbl (b := false) | apply Tot.bql (b := false) | apply Tot.ift | apply Tot.iftf | apply Tot.ifff) | ((conv => arg 2; arg 1; simp (disch := first | omega | assumption) only [qa8, qaw, lenSl_sl, List.map_nil, List.length_nil, qai, encL_nil, qam, ext0, extS, r26, hln]); (with_reducible first | apply Tot.of (qaa rfl) | apply Tot.gbl (b := true) | apply Tot.bql (b := true) | (apply Tot.neq_t; omega) | (apply Tot.neq_f; omega))))
      ((try conv => arg 2; simp (disch := first | omega | assumption) only [qac, qau, qa2, qad, List.take_length, qap, qab, qae]); refine Tot.ret ?_)
      rfl
    · simp only [List.map_cons, List.map_nil, encL_c] at hln
      have hlen : row.length ≤ s.length := by simpa using hrl
      have hc : (encRow row).cellsT false = some [encRow row] := rfl
      have hf : ofCells false [encRow row] 0 1 = some (encRow row) := rfl
      by_cases hn : row.length = want.length
      · have hlo := s58_loop A row want hn (by omega) row 0 rfl
        (repeat' first | (with_reducible first | apply Tot.of (qaa rfl) | apply Tot.of (qa3 rfl) | apply Tot.of (qah rfl) | apply Tot.of (qas rfl) | apply Tot.of (st_it rfl) | apply Tot.gbl (b := false) | apply Tot.bql (b := false) | apply Tot.iff | apply Tot.ifff | (apply Tot.neq_t; omega)) | ((conv => arg 2; arg 1; simp (disch := first | omega | assumption) only [qaw, lenSl_sl, qbf, Nat.zero_add, List.length_cons, List.length_nil, qaz, qai, qam, len_encL, List.length_map, ext0, extS, r26, hln, idx_lit1, hc, hf, len_row]); (with_reducible first | apply Tot.of (qaa rfl) | apply Tot.gbl (b := false) | apply Tot.bql (b := false) | (apply Tot.neq_t; omega))))
        (refine Tot.of_eq ?_; (conv => lhs; simp (disch := first | omega | assumption) only [qai]); exact hlo)
      · (repeat' first | (with_reducible first | apply Tot.of (qaa rfl) | apply Tot.of (qa3 rfl) | apply Tot.of (qah rfl) | apply Tot.of (qas rfl) | apply Tot.of (qak rfl) | apply Tot.gbl (b := false) | apply Tot.bql (b := false) | apply Tot.ift | apply Tot.ifff | (apply Tot.neq_f; omega)) | ((conv => arg 2; arg 1; simp (disch := first | omega | assumption) only [qaw, lenSl_sl, qbf, Nat.zero_add, List.length_cons, List.length_nil, qaz, qai, qam, len_encL, List.length_map, ext0, extS, r26, hln, idx_lit1, hc, hf, len_row]); (with_reducible first | apply Tot.of (qaa rfl) | apply Tot.gbl (b := false) | apply Tot.bql (b := true) | apply Tot.bql (b := false) | (apply Tot.neq_t; omega))))
        ((try conv => arg 2; simp (disch := first | omega | assumption) only [qac, qau, qa2, qad, List.take_length, qap, qab, qae]); refine Tot.ret ?_)
        have : ¬ row.map Word.t = want := fun e => hn (by rw [← e]; simp)
        simp [aloneP, this]
    · have hne : ¬ ((rows.length : Int) + 1 + 1 = 1) := by omega
      (repeat' first | (with_reducible first | apply Tot.of (qaa rfl) | apply Tot.of (qa3 rfl) | apply Tot.of (qah rfl) | apply Tot.of (qas rfl) | apply Tot.of (qak rfl) | apply Tot.gbl (b := false) | apply Tot.bql (b := false) | apply Tot.ift | apply Tot.iftf | apply Tot.ifff) | ((conv => arg 2; arg 1; simp (disch := first | omega | assumption) only [qa8, qaw, List.length_cons, qai, qam, len_encL, List.length_map, ext0, extS, r26, hln]); (with_reducible first | apply Tot.of (qaa rfl) | apply Tot.gbl (b := true) | apply Tot.bql (b := true) | (apply Tot.neq_t; omega) | (apply Tot.neq_f; omega))))
      ((try conv => arg 2; simp (disch := first | omega | assumption) only [qac, qau, qa2, qad, List.take_length, qap, qab, qae]); refine Tot.ret ?_)
      rfl
theorem alone_one {s : Str} (h : isWord s = true) (hs : s.length ≤ 1000000) (A : St) : f58 mL (Run Tryd.prog rxA) (Dcall Tryd.prog rxA) (.str s) (encL 1 ([s].map .str)) A = some (.ret (.bool true), A) := by
  have := s58 s [s] hs (by simp) _ (textP_line (word_nl h) (toks_one 1 h)) A
  simpa [aloneP] using this
theorem alone_two {a b : Str} (ha : isWord a = true) (hb : isWord b = true) (hl : a.length + b.length ≤ 1000000) (A : St) : f58 mL (Run Tryd.prog rxA) (Dcall Tryd.prog rxA) (.str (a ++ b)) (encL 1 ([a, b].map .str)) A = some (.ret (.bool (!glued a b)), A) := by
  obtain ⟨x, hx⟩ := textP_some (a ++ b)
  rw [s58 (a ++ b) [a, b] (by rw [List.length_append]; omega) (by simp) x hx A]
  have hnl : ∀ c, c ∈ a ++ b → c.toNat ≠ 10 := fun c hc => (List.mem_append.1 hc).elim (word_nl ha c) (word_nl hb c)
  obtain ⟨y, hy⟩ := toks_some 1 ((a ++ b).length + 1) 0 (a ++ b) (by omega)
  have h1 := toks_two 1 ha hb hy
  rw [← h1]
  have key : aloneP [a, b] x = areTwo a b y := by
    unfold textP at hx
    rw [splitNL_no _ hnl] at hx
    unfold rowsOf at hx
    rw [hy] at hx
    rcases y with e | l
    · cases hx; rfl
    · cases l with
      | nil => cases hx; rfl
      | cons v l =>
        cases hx
        rcases l with _ | ⟨w, _ | ⟨u, l⟩⟩
        · simp [aloneP, areTwo, putRow, Except.map]
        · simp [aloneP, areTwo, putRow, Except.map]
        · simp [aloneP, areTwo, putRow, Except.map]
  rw [key]
end Go.Vm.Rx

/- Words said as a text: both texts. -/
namespace Go.Vm.Rx
open Go Go.Proofs P
set_option linter.unusedVariables false
set_option linter.unusedSimpArgs false
set_option linter.unusedSectionVars false
set_option maxRecDepth 10000
set_option maxHeartbeats 2000000
/-! a row of bytes that grows -/
theorem app_accS {b : Option Nat} {A : St} {s w : Str} (hb : AccOk b 1 (strBytes s)) (hl : s.length + w.length ≤ 1000000000) :
    appendO 1 1 (accD b A.length 1 (strBytes s)) (.str w) (accA b A (strBytes s)) = some (accD (accNext b 1 (strBytes w)) A.length 1 (strBytes (s ++ w)), accA (accNext b 1 (strBytes w)) A (strBytes (s ++ w))) := by
  rw [strBytes_append]
  exact app_acc hb rfl (by simp [strBytes]; omega) (by omega)
theorem app_accB {b : Option Nat} {A : St} {s : Str} (hb : AccOk b 1 (strBytes s)) (hl : s.length + 1 ≤ 1000000000) :
    appendO 1 1 (accD b A.length 1 (strBytes s)) (.sl .full 1 [.int .u8 32]) (accA b A (strBytes s)) = some (accD none A.length 1 (strBytes (s ++ [32])), accA none A (strBytes (s ++ [32]))) := by
  rw [strBytes_append]
  exact app_acc1 hb (by simp [strBytes]; omega) (by omega)
theorem conv_acc {b : Option Nat} {c : Nat} {s : Str} (hb : AccOk b 1 (strBytes s)) : convO .bytesStr (accD b c 1 (strBytes s)) = some (.str s) := by
  cases b with
  | none => exact convBytes _ s
  | some e =>
    rcases hb with hb | hb | ⟨hb, h2⟩
    · cases hb
    · cases hb; exact convBytes _ s
    · cases hb
      have : s = [] := by simpa [strBytes] using h2
      subst this
      exact convBytes0 0
theorem AccOk.nextS {b : Option Nat} {s : Str} (h : AccOk b 1 (strBytes s)) (w : Str) : AccOk (accNext b 1 (strBytes w)) 1 (strBytes (s ++ w)) := by rw [strBytes_append]; exact h.next _
theorem s38_loop (A : St) (l : List Str) (hl : l.length ≤ 1000000) (hw : ∀ w, w ∈ l → RxWord w) : ∀ (t : List Str) (i : Nat) (p acc : Str) (b : Option Nat), l.drop i = p :: t → acc.length ≤ 100 * i + 100 → AccOk b 1 (strBytes acc) →
    iterK (f38_s0 mL (Run Tryd.prog rxA) (Dcall Tryd.prog rxA) A) (Env.mk (sp [(0, encL 1 (l.map .str)), (3, accD b A.length 1 (strBytes acc)), (2, encL 1 (l.map .str)), (0, .int .i64 (l.length : Nat)), (0, .int .i64 ((i : Int) + 1))] 38) []) (accA b A (strBytes acc)) = some (.ret (.tup [.str (acc ++ sayF p t), .int .i64 0]), A) := by
  intro t
  induction t with
  | nil =>
    intro i p acc b ht ha hb
    have h1 := drop_lt ht
    have h2 := drop_len (drop_succ ht)
    have hcv := conv_acc (c := A.length) hb
    refine Tot.eq (Tot.iter ?_)
    conv => arg 2; arg 1; unfold f38_s0
    (repeat' first | (with_reducible first | apply Tot.of (qaq rfl) | apply Tot.of (qba rfl) | apply Tot.of (qah rfl) | apply Tot.of (st_inr rfl) | apply Tot.of (qa0 rfl) | apply Tot.bql (b := false) | apply Tot.iff) | ((conv => arg 2; arg 1; simp (disch := first | omega | assumption) only [qac, Option.map_some, qao, shut_strD, shut_tup, qay, qar, qad, qal, qa5, qbb, qbe, qai, qag, qam, canon_tup, qat, qan, qab, qae, hcv, accA_take, accA_Kept]); (with_reducible first | apply Tot.of (qaa rfl) | (apply Tot.lss_f; omega))))
    ((try conv => arg 2; simp (disch := first | omega | assumption) only []); refine Tot.ret ?_)
    simp [sayF]
  | cons w t ih =>
    intro i p acc b ht ha hb
    have h1 := drop_lt ht
    have hd := drop_succ ht
    have h2 := drop_lt hd
    have hp := hw p (drop_mem ht)
    have hww := hw w (drop_mem hd)
    obtain ⟨hp1, hp2⟩ := hp
    obtain ⟨hw1, hw2⟩ := hww
    have hx := idx_drop (f := D.str) ht 1 false .i64
    have e1 : (i : Int) = (i : Int) + 1 - 1 := by omega
    rw [e1] at hx
    have hy := idx_drop (f := D.str) hd 1 false .i64
    rw [Int.natCast_add, Int.natCast_one] at hy
    have hal := fun A => alone_one hw1 (by omega) A
    have hal2 := fun A => alone_two hp1 hw1 (by omega) A
    refine Tot.eq (Tot.iter ?_)
    conv => arg 2; arg 1; unfold f38_s0
    by_cases hgl : glued p w = true
    · rw [hgl] at hal2
      have ap1 := app_accB (A := A) hb (by omega)
      have ap2 := app_accS (A := A) (w := w) (s := acc ++ [32]) (.own 1 (strBytes (acc ++ [32]))) (by simp only [List.length_append, List.length_cons, List.length_nil]; omega)
      (repeat' first | (with_reducible first | apply Tot.of (qaa rfl) | apply Tot.of (qaq rfl) | apply Tot.of (qba rfl) | apply Tot.of (qa3 rfl) | apply Tot.of (qah rfl) | apply Tot.of (qav rfl) | apply Tot.of (st_bnsum rfl) | apply Tot.of (st_bnguard rfl) | apply Tot.of (qas rfl) | apply Tot.of (st_inl rfl) | apply Tot.of (st_guard rfl) | apply Tot.of (st_bngs rfl) | apply Tot.gbl (b := true) | apply Tot.bql (b := true) | apply Tot.bql (b := false) | apply Tot.ift | apply Tot.iff | apply Tot.iftt) | ((conv => arg 2; arg 1; simp (disch := first | omega | assumption) only [qa8, Option.map_some, binO_add, binO_sub, qbi, parts_nil, parts_int, qbf, qa4, Nat.zero_add, un_not, Bool.not_true, Bool.not_false, qa5, qbb, qbe, qaz, qai, qam, cell_str, sparts_str, sparts_str2, hx, hy, canon1, canon2, r58, hal, hal2, str_add, ap1, ap2]); (with_reducible first | apply Tot.of (qaa rfl) | apply Tot.bql (b := true) | (apply Tot.lss_t; omega) | (apply Tot.gtr_t; omega))))
      (refine Tot.of_eq ?_; (conv => lhs; simp (disch := first | omega | assumption) only [qa5, qbb, qbe]); have := ih (i + 1) w (acc ++ [32] ++ w) _ hd (by simp only [List.length_append, List.length_cons, List.length_nil]; omega) (AccOk.nextS (.own 1 (strBytes (acc ++ [32]))) w); rw [Int.natCast_add, Int.natCast_one] at this; have e : acc ++ sayF p (w :: t) = acc ++ [32] ++ w ++ sayF w t := (by simp [sayF, hgl]); rw [e]; exact this)
    · have hgf : glued p w = false := by simpa using hgl
      rw [hgf] at hal2
      have ap2 := app_accS (A := A) (w := w) hb (by omega)
      (repeat' first | (with_reducible first | apply Tot.of (qaa rfl) | apply Tot.of (qaq rfl) | apply Tot.of (qba rfl) | apply Tot.of (qa3 rfl) | apply Tot.of (qah rfl) | apply Tot.of (qav rfl) | apply Tot.of (st_bnsum rfl) | apply Tot.of (st_bnguard rfl) | apply Tot.of (qas rfl) | apply Tot.of (st_inl rfl) | apply Tot.of (st_guard rfl) | apply Tot.of (st_bngs rfl) | apply Tot.gbl (b := true) | apply Tot.bql (b := true) | apply Tot.bql (b := false) | apply Tot.ift | apply Tot.iff | apply Tot.iftt) | ((conv => arg 2; arg 1; simp (disch := first | omega | assumption) only [qa8, binO_add, binO_sub, qbi, qbf, qa4, un_not, Bool.not_true, Bool.not_false, qa5, qbb, qbe, qaz, qai, qam, cell_str, sparts_str, sparts_str2, hx, hy, canon1, canon2, r58, hal, hal2, str_add, ap2]); (with_reducible first | apply Tot.of (qaa rfl) | apply Tot.bql (b := false) | (apply Tot.lss_t; omega) | (apply Tot.gtr_t; omega))))
      (refine Tot.of_eq ?_; (conv => lhs; simp (disch := first | omega | assumption) only [qa5, qbb, qbe]); have := ih (i + 1) w (acc ++ w) _ hd (by simp only [List.length_append]; omega) (AccOk.nextS hb w); rw [Int.natCast_add, Int.natCast_one] at this; have e : acc ++ sayF p (w :: t) = acc ++ w ++ sayF w t := (by simp [sayF, hgf]); rw [e]; exact this)
theorem s38 (A : St) (l : List Str) (hl : l.length ≤ 1000000) (hw : ∀ w, w ∈ l → RxWord w) : f38 mL (Run Tryd.prog rxA) (Dcall Tryd.prog rxA) (encL 1 (l.map .str)) A = some (.ret (.tup [.str (sayW l), .int .i64 0]), A) := by
  unfold f38
  refine Tot.eq ?_
  cases l with
  | nil =>
    (repeat' first | (with_reducible first | apply Tot.of (st_it rfl)) | ((conv => arg 2; arg 1; simp (disch := first | omega | assumption) only [lenSl_sl, List.map_nil, List.length_nil, encL_nil]); (with_reducible first | apply Tot.of (qaa rfl))))
    refine Tot.iter ?_
    conv => arg 2; arg 1; unfold f38_s0
    (repeat' first | (with_reducible first | apply Tot.of (qaq rfl) | apply Tot.of (qba rfl) | apply Tot.of (qah rfl) | apply Tot.of (st_inr rfl) | apply Tot.of (qa0 rfl) | apply Tot.bql (b := false) | apply Tot.iff) | ((conv => arg 2; arg 1; simp (disch := first | omega | assumption) only [qac, Option.map_some, convBytes0, qao, shut_strD, shut_tup, qay, qar, qa2, qad, qal, List.take_length, List.map_nil, qa5, qbb, qbe, qai, encL_nil, qag, qam, canon_tup, qat, qan, qab, qae]); (with_reducible first | apply Tot.of (qaa rfl) | (apply Tot.lss_f; omega))))
    ((try conv => arg 2; simp (disch := first | omega | assumption) only []); refine Tot.ret ?_)
    rfl
  | cons w l =>
    obtain ⟨hw1, hw2⟩ := hw w (by simp)
    have hll := hl
    simp only [List.length_cons] at hll
    have hal := fun A => alone_one hw1 (by omega) A
    have hb0 : AccOk (some 0) 1 (strBytes []) := .nil 1
    have ap2 := app_accS (A := A) (w := w) hb0 (by simp; omega)
    have hlo := s38_loop A (w :: l) hl hw l 0 w ([] ++ w) _ rfl (by simp; omega) (AccOk.nextS hb0 w)
    have hy := idx_drop (f := D.str) (l := w :: l) (i := 0) rfl 1 false .i64
    rw [Int.natCast_zero] at hy
    have e0 : accD (some 0) A.length 1 (strBytes []) = .sl .full 0 [] := rfl
    have e1 : accA (some 0) A (strBytes []) = A := rfl
    rw [e0, e1] at ap2
    (repeat' first | (with_reducible first | apply Tot.of (st_it rfl)) | ((conv => arg 2; arg 1; simp (disch := first | omega | assumption) only [List.length_cons, len_encL, List.length_map]); (with_reducible first | apply Tot.of (qaa rfl))))
    refine Tot.iter ?_
    conv => arg 2; arg 1; unfold f38_s0
    (repeat' first | (with_reducible first | apply Tot.of (qaa rfl) | apply Tot.of (qaq rfl) | apply Tot.of (qba rfl) | apply Tot.of (qa3 rfl) | apply Tot.of (qah rfl) | apply Tot.of (qav rfl) | apply Tot.of (st_bnsum rfl) | apply Tot.of (st_bnguard rfl) | apply Tot.of (qas rfl) | apply Tot.of (st_inl rfl) | apply Tot.of (st_guard rfl) | apply Tot.of (st_bngs rfl) | apply Tot.gbl (b := false) | apply Tot.bql (b := true) | apply Tot.bql (b := false) | apply Tot.ift | apply Tot.iff | apply Tot.ifft) | ((conv => arg 2; arg 1; simp (disch := first | omega | assumption) only [qaw, binO_add, qbi, qbf, qa4, un_not, Bool.not_true, qa5, qbb, qbe, qaz, qai, qam, cell_str, sparts_str, Int.reduceAdd, hy, canon1, r58, hal, ap2]); (with_reducible first | apply Tot.of (qaa rfl) | apply Tot.bql (b := false) | (apply Tot.lss_t; omega) | (apply Tot.gtr_f; omega))))
    (refine Tot.of_eq ?_; (conv => lhs; simp (disch := first | omega | assumption) only [qa5, qbb, qbe, qai]); exact hlo)
end Go.Vm.Rx
