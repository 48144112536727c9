/- What is printed is parsed as the same: law 7. -/
import Derived.Test.YtmaipfiikbcfmaaDoorRxS42
import Derived.Test.YtmaipfiikbcfmaaDoorRxS34
set_option linter.all false
namespace Go.Vm.Rx
open Go Go.Proofs P
set_option linter.unusedVariables false
set_option linter.unusedSimpArgs false
set_option linter.unusedSectionVars false
set_option maxRecDepth 10000
set_option maxHeartbeats 4000000
/-- what is parsed may be -/
theorem readP_0 {l : List Word} (hw : ∀ w, w ∈ l → w.t.length ≤ 100000000) (h : (readP l).2.2 = 0) : (readP l).1.check = 0 := by
  obtain ⟨x, hx⟩ := (ends hw (8 * l.length + 4)).alt 0 0 (by omega) (by omega)
  have hfc := (facts hw (8 * l.length + 4)).alt 0 0 x (by omega) hx
  unfold readP at h ⊢
  rw [hx] at h ⊢
  rcases x with ⟨a, c⟩ | ⟨r, j⟩
  · have h2 := hfc.2.2
    dsimp only at h
    omega
  · dsimp only at h ⊢
    by_cases h1 : j < l.length
    · rw [if_pos h1] at h; exact absurd (show (90 : Int) = 0 from h) (by decide)
    · rw [if_neg h1] at h ⊢
      by_cases h2 : r.check = 0
      · rw [if_pos h2]; exact h2
      · rw [if_neg h2] at h; exact absurd h h2
theorem parse_0 {s : Str} {x : Except (Int × Int) (List (List Word))} (hs : s.length ≤ 1000000) (hx : textP s x) (h : (parseP x).2.2.2 = 0) : (parseP x).1.check = 0 := by
  rcases x with ⟨p, c⟩ | rows
  · exact absurd (show (30 : Int) = 0 from h) (by decide)
  · obtain ⟨h1, h2, h3⟩ := textP_ok hx
    exact readP_0 (fun w hm => by have := (h3 w hm).2.2.2.1; omega) h
/-- what an expression's text is parsed as -/
theorem parse_back {r : Rx} (hr : r.check = 0) : ∃ (z : Rx) (a b f : Int), (∀ A, f9 mL (Run Tryd.prog rxA) (Dcall Tryd.prog rxA) (.str (sayW r.body)) A = some (.ret (.tup [encRx z, .int .i64 a, .int .i64 b, .int .i64 f]), A)) ∧ ((f = 0 ∧ z = r) ∨ (f = 91 ∧ 50 < r.size)) := by
  obtain ⟨ws, h1, h2, h3⟩ := parse_say hr
  have hp := fun A => s9 (sayW r.body) (by omega) _ h1 A
  have e : ([ws] : List (List Word)).flatten = ws := by simp
  unfold parseD parseP at hp
  dsimp only at hp
  rw [e] at hp
  rcases h2 with h2 | ⟨a, h2, h4⟩
  · rw [h2] at hp
    exact ⟨r, _, _, 0, hp, .inl ⟨rfl, rfl⟩⟩
  · rw [h2] at hp
    exact ⟨Rx.no, _, _, 91, hp, .inr ⟨rfl, h4⟩⟩
theorem law7 (r : Rx) (hr : r.Ok) (text : Str) (ht : text.length ≤ 2000000) (A : St) : f7 mL (Run Tryd.prog rxA) (Dcall Tryd.prog rxA) (encRx r) (.str text) A = some (.ret (.bool true), A) := by
  obtain ⟨x, hx⟩ := textP_some (text.take 2000)
  have hl : (text.take 2000).length ≤ 1000000 := by simp only [List.length_take]; omega
  have p2 := fun A => s9 (text.take 2000) hl x hx A
  have hyok := parseP_ok hl hx
  have hy0 := parse_0 hl hx
  generalize parseP x = q at p2 hyok hy0
  obtain ⟨y, ln, cl, g⟩ := q
  unfold parseD at p2
  dsimp only at p2 hyok hy0
  have hsame := fun A => s11 y hyok y hyok A
  have hrs := fun A => s25 r hr r hr A
  rw [Rx.same_refl] at hsame hrs
  have pr1 := fun A => s20 r hr A
  have hsz := fun A => s23 r hr A
  have hsec : ¬ g = 0 ∨ (g = 0 ∧ ∃ (s2 : Str) (z : Rx) (a b i : Int), (∀ A, f20 mL (Run Tryd.prog rxA) (Dcall Tryd.prog rxA) (encRx y) A = some (.ret (.tup [.str s2, .int .i64 0]), A)) ∧ (∀ A, f9 mL (Run Tryd.prog rxA) (Dcall Tryd.prog rxA) (.str s2) A = some (.ret (.tup [encRx z, .int .i64 a, .int .i64 b, .int .i64 i]), A)) ∧ ((i = 0 ∧ z = y) ∨ i = 91)) := by
    by_cases hg : g = 0
    · right
      have y0 := hy0 hg
      obtain ⟨z, a, b, f, h1, h2⟩ := parse_back y0
      have pr2 := fun A => s20 y hyok A
      rw [print_0 y0] at pr2
      exact ⟨hg, sayW y.body, z, a, b, f, pr2, h1, h2.imp id fun h => h.1⟩
    · exact .inl hg
  unfold f7
  refine Tot.eq ?_
  by_cases hc : r.check = 0
  · obtain ⟨z0, a0, b0, f0, h1, h2⟩ := parse_back hc
    obtain ⟨hs1, hs2, _⟩ := check_0 hc
    rw [print_0 hc] at pr1
    rw [size_0 hc] at hsz
    rcases h2 with ⟨rfl, rfl⟩ | ⟨rfl, h2⟩
    · by_cases h : 2000 < text.length
      · have hsl : sliceStrO (.str text) none (some (.int .i64 2000)) none = some (.str (text.take 2000)) := slStr_to (s := text) (n := 2000) (k := .i64) (by omega) (by omega)
        rcases hsec with hg | ⟨rfl, s2, z, a2, b2, i2, q1, q2, hz⟩
        · (repeat' first | (with_reducible first | apply Tot.of (qaa rfl) | apply Tot.of (qaq rfl) | apply Tot.of (qa3 rfl) | apply Tot.of (qah rfl) | apply Tot.of (qav rfl) | apply Tot.of (qas rfl) | apply Tot.of (st_inl rfl) | apply Tot.of (qak rfl) | apply Tot.gbl (b := true) | apply Tot.gbl (b := false) | apply Tot.gbn | apply Tot.bql (b := true) | apply Tot.bql (b := false) | apply Tot.ift | apply Tot.iff | apply Tot.iftt | apply Tot.ifft | apply Tot.ifff) | ((conv => arg 2; arg 1; simp (disch := first | omega | assumption) only [qa8, qaw, Option.map_some, qal, qbk, Nat.zero_add, qa6, ofA3, List.length_append, List.length_cons, List.length_nil, un_not, Bool.not_true, qa5, qbb, qaz, qai, qam, app_one, qbj, qbc, ld_sh, qa9, ldc0, ldcS, sto_sh, stoc0, stocS, ext0, extS, Nat.reduceAdd, hsl, rx_box, qbd, qa7, rx_lay, r20, pr1, h1, r23, hsz, r9, p2, r25, hrs, alive_is]); (with_reducible first | apply Tot.of (qaa rfl) | apply Tot.gbl (b := false) | apply Tot.bql (b := false) | (apply Tot.gtr_t; omega) | (apply Tot.eql_t; omega) | (apply Tot.neq_t; omega) | (apply Tot.neq_f; omega))))
          ((try conv => arg 2; simp (disch := first | omega | assumption) only [qac, qau, qaj, qad, qap, qab, qae, List.take_left']); refine Tot.ret ?_)
          rfl
        · rcases hz with ⟨rfl, rfl⟩ | rfl
          · (repeat' first | (with_reducible first | apply Tot.of (qaa rfl) | apply Tot.of (qaq rfl) | apply Tot.of (qa3 rfl) | apply Tot.of (qah rfl) | apply Tot.of (qav rfl) | apply Tot.of (qas rfl) | apply Tot.of (st_inl rfl) | apply Tot.of (qak rfl) | apply Tot.gbl (b := true) | apply Tot.gbl (b := false) | apply Tot.gbn | apply Tot.bql (b := true) | apply Tot.bql (b := false) | apply Tot.ift | apply Tot.iff | apply Tot.iftt | apply Tot.ifft | apply Tot.iftf | apply Tot.ifff) | ((conv => arg 2; arg 1; simp (disch := first | omega | assumption) only [qa8, qaw, Option.map_some, qal, qbk, Nat.zero_add, qa6, ofA3, List.length_append, List.length_cons, List.length_nil, un_not, Bool.not_true, qa5, qbb, qaz, qai, qam, app_one, qbj, qbc, ld_sh, qa9, ldc0, ldcS, sto_sh, stoc0, stocS, ext0, extS, Nat.reduceAdd, hsl, rx_box, qbd, qa7, rx_lay, r20, pr1, h1, r23, hsz, r9, p2, r25, hrs, alive_is, q1, q2, r11, hsame]); (with_reducible first | apply Tot.of (qaa rfl) | apply Tot.gbl (b := true) | apply Tot.gbl (b := false) | apply Tot.bql (b := true) | apply Tot.bql (b := false) | (apply Tot.gtr_t; omega) | (apply Tot.eql_t; omega) | (apply Tot.neq_t; omega))))
            ((try conv => arg 2; simp (disch := first | omega | assumption) only [qac, qau, qaj, qad, qap, qab, qae, List.take_left']); refine Tot.ret ?_)
            rfl
          · (repeat' first | (with_reducible first | apply Tot.of (qaa rfl) | apply Tot.of (qaq rfl) | apply Tot.of (qa3 rfl) | apply Tot.of (qah rfl) | apply Tot.of (qav rfl) | apply Tot.of (qas rfl) | apply Tot.of (st_inl rfl) | apply Tot.of (qak rfl) | apply Tot.gbl (b := true) | apply Tot.gbl (b := false) | apply Tot.gbn | apply Tot.bql (b := true) | apply Tot.bql (b := false) | apply Tot.ift | apply Tot.iff | apply Tot.iftt | apply Tot.ifft | apply Tot.ifff) | ((conv => arg 2; arg 1; simp (disch := first | omega | assumption) only [qa8, qaw, Option.map_some, qal, qbk, Nat.zero_add, qa6, ofA3, List.length_append, List.length_cons, List.length_nil, un_not, Bool.not_true, qa5, qbb, qaz, qai, qam, app_one, qbj, qbc, ld_sh, qa9, ldc0, ldcS, sto_sh, stoc0, stocS, ext0, extS, Nat.reduceAdd, hsl, rx_box, qbd, qa7, rx_lay, r20, pr1, h1, r23, hsz, r9, p2, r25, hrs, alive_is, q1, q2]); (with_reducible first | apply Tot.of (qaa rfl) | apply Tot.gbl (b := true) | apply Tot.gbl (b := false) | apply Tot.bql (b := true) | apply Tot.bql (b := false) | (apply Tot.gtr_t; omega) | (apply Tot.eql_t; omega) | (apply Tot.eql_f; omega) | (apply Tot.neq_t; omega))))
            ((try conv => arg 2; simp (disch := first | omega | assumption) only [qac, qau, qaj, qad, qap, qab, qae, List.take_left']); refine Tot.ret ?_)
            rfl
      · have htk : text.take 2000 = text := List.take_of_length_le (by omega)
        rw [htk] at p2
        rcases hsec with hg | ⟨rfl, s2, z, a2, b2, i2, q1, q2, hz⟩
        · (repeat' first | (with_reducible first | apply Tot.of (qaa rfl) | apply Tot.of (qaq rfl) | apply Tot.of (qa3 rfl) | apply Tot.of (qah rfl) | apply Tot.of (qav rfl) | apply Tot.of (qas rfl) | apply Tot.of (st_inl rfl) | apply Tot.of (qak rfl) | apply Tot.gbl (b := true) | apply Tot.gbl (b := false) | apply Tot.gbn | apply Tot.bql (b := true) | apply Tot.bql (b := false) | apply Tot.ift | apply Tot.iff | apply Tot.iftt | apply Tot.ifft | apply Tot.ifff) | ((conv => arg 2; arg 1; simp (disch := first | omega | assumption) only [qa8, qaw, Option.map_some, qal, qbk, Nat.zero_add, qa6, ofA3, List.length_append, List.length_cons, List.length_nil, un_not, Bool.not_true, qa5, qbb, qaz, qai, qam, app_one, qbj, qbc, ld_sh, qa9, ldc0, ldcS, sto_sh, stoc0, stocS, ext0, extS, Nat.reduceAdd, rx_box, qbd, qa7, rx_lay, r20, pr1, h1, r23, hsz, r9, p2, r25, hrs, alive_is]); (with_reducible first | apply Tot.of (qaa rfl) | apply Tot.gbl (b := false) | apply Tot.bql (b := false) | (apply Tot.gtr_f; omega) | (apply Tot.eql_t; omega) | (apply Tot.neq_t; omega) | (apply Tot.neq_f; omega))))
          ((try conv => arg 2; simp (disch := first | omega | assumption) only [qac, qau, qaj, qad, qap, qab, qae, List.take_left']); refine Tot.ret ?_)
          rfl
        · rcases hz with ⟨rfl, rfl⟩ | rfl
          · (repeat' first | (with_reducible first | apply Tot.of (qaa rfl) | apply Tot.of (qaq rfl) | apply Tot.of (qa3 rfl) | apply Tot.of (qah rfl) | apply Tot.of (qav rfl) | apply Tot.of (qas rfl) | apply Tot.of (st_inl rfl) | apply Tot.of (qak rfl) | apply Tot.gbl (b := true) | apply Tot.gbl (b := false) | apply Tot.gbn | apply Tot.bql (b := true) | apply Tot.bql (b := false) | apply Tot.ift | apply Tot.iff | apply Tot.iftt | apply Tot.ifft | apply Tot.iftf | apply Tot.ifff) | ((conv => arg 2; arg 1; simp (disch := first | omega | assumption) only [qa8, qaw, Option.map_some, qal, qbk, Nat.zero_add, qa6, ofA3, List.length_append, List.length_cons, List.length_nil, un_not, Bool.not_true, qa5, qbb, qaz, qai, qam, app_one, qbj, qbc, ld_sh, qa9, ldc0, ldcS, sto_sh, stoc0, stocS, ext0, extS, Nat.reduceAdd, rx_box, qbd, qa7, rx_lay, r20, pr1, h1, r23, hsz, r9, p2, r25, hrs, alive_is, q1, q2, r11, hsame]); (with_reducible first | apply Tot.of (qaa rfl) | apply Tot.gbl (b := true) | apply Tot.gbl (b := false) | apply Tot.bql (b := true) | apply Tot.bql (b := false) | (apply Tot.gtr_f; omega) | (apply Tot.eql_t; omega) | (apply Tot.neq_t; omega))))
            ((try conv => arg 2; simp (disch := first | omega | assumption) only [qac, qau, qaj, qad, qap, qab, qae, List.take_left']); refine Tot.ret ?_)
            rfl
          · (repeat' first | (with_reducible first | apply Tot.of (qaa rfl) | apply Tot.of (qaq rfl) | apply Tot.of (qa3 rfl) | apply Tot.of (qah rfl) | apply Tot.of (qav rfl) | apply Tot.of (qas rfl) | apply Tot.of (st_inl rfl) | apply Tot.of (qak rfl) | apply Tot.gbl (b := true) | apply Tot.gbl (b := false) | apply Tot.gbn | apply Tot.bql (b := true) | apply Tot.bql (b := false) | apply Tot.ift | apply Tot.iff | apply Tot.iftt | apply Tot.ifft | apply Tot.ifff) | ((conv => arg 2; arg 1; simp (disch := first | omega | assumption) only [qa8, qaw, Option.map_some, qal, qbk, Nat.zero_add, qa6, ofA3, List.length_append, List.length_cons, List.length_nil, un_not, Bool.not_true, qa5, qbb, qaz, qai, qam, app_one, qbj, qbc, ld_sh, qa9, ldc0, ldcS, sto_sh, stoc0, stocS, ext0, extS, Nat.reduceAdd, rx_box, qbd, qa7, rx_lay, r20, pr1, h1, r23, hsz, r9, p2, r25, hrs, alive_is, q1, q2]); (with_reducible first | apply Tot.of (qaa rfl) | apply Tot.gbl (b := true) | apply Tot.gbl (b := false) | apply Tot.bql (b := true) | apply Tot.bql (b := false) | (apply Tot.gtr_f; omega) | (apply Tot.eql_t; omega) | (apply Tot.eql_f; omega) | (apply Tot.neq_t; omega))))
            ((try conv => arg 2; simp (disch := first | omega | assumption) only [qac, qau, qaj, qad, qap, qab, qae, List.take_left']); refine Tot.ret ?_)
            rfl
    · by_cases h : 2000 < text.length
      · have hsl : sliceStrO (.str text) none (some (.int .i64 2000)) none = some (.str (text.take 2000)) := slStr_to (s := text) (n := 2000) (k := .i64) (by omega) (by omega)
        rcases hsec with hg | ⟨rfl, s2, z, a2, b2, i2, q1, q2, hz⟩
        · (repeat' first | (with_reducible first | apply Tot.of (qaa rfl) | apply Tot.of (qaq rfl) | apply Tot.of (qa3 rfl) | apply Tot.of (qah rfl) | apply Tot.of (qav rfl) | apply Tot.of (qas rfl) | apply Tot.of (st_inl rfl) | apply Tot.of (qak rfl) | apply Tot.gbl (b := true) | apply Tot.gbl (b := false) | apply Tot.bql (b := true) | apply Tot.bql (b := false) | apply Tot.ift | apply Tot.iff | apply Tot.iftt | apply Tot.ifft | apply Tot.ifff) | ((conv => arg 2; arg 1; simp (disch := first | omega | assumption) only [qa8, qaw, Option.map_some, qal, qbk, Nat.zero_add, qa6, ofA3, List.length_append, List.length_cons, List.length_nil, un_not, Bool.not_true, qa5, qbb, qaz, qai, qam, app_one, qbj, qbc, qa9, ldc0, sto_sh, stoc0, stocS, ext0, extS, Nat.reduceAdd, hsl, rx_box, qbd, qa7, rx_lay, r20, pr1, h1, r23, hsz, r9, p2, alive_is]); (with_reducible first | apply Tot.of (qaa rfl) | apply Tot.gbl (b := false) | apply Tot.bql (b := false) | (apply Tot.gtr_t; omega) | (apply Tot.eql_t; omega) | (apply Tot.eql_f; omega) | (apply Tot.neq_f; omega))))
          ((try conv => arg 2; simp (disch := first | omega | assumption) only [qac, qau, qaj, qad, qap, qab, qae, List.take_left']); refine Tot.ret ?_)
          rfl
        · rcases hz with ⟨rfl, rfl⟩ | rfl
          · (repeat' first | (with_reducible first | apply Tot.of (qaa rfl) | apply Tot.of (qaq rfl) | apply Tot.of (qa3 rfl) | apply Tot.of (qah rfl) | apply Tot.of (qav rfl) | apply Tot.of (qas rfl) | apply Tot.of (st_inl rfl) | apply Tot.of (qak rfl) | apply Tot.gbl (b := true) | apply Tot.gbl (b := false) | apply Tot.bql (b := true) | apply Tot.bql (b := false) | apply Tot.ift | apply Tot.iff | apply Tot.iftt | apply Tot.ifft | apply Tot.iftf | apply Tot.ifff) | ((conv => arg 2; arg 1; simp (disch := first | omega | assumption) only [qa8, qaw, Option.map_some, qal, qbk, Nat.zero_add, qa6, ofA3, List.length_append, List.length_cons, List.length_nil, un_not, Bool.not_true, qa5, qbb, qaz, qai, qam, app_one, qbj, qbc, ld_sh, qa9, ldc0, ldcS, sto_sh, stoc0, stocS, ext0, extS, Nat.reduceAdd, hsl, rx_box, qbd, qa7, rx_lay, r20, pr1, h1, r23, hsz, r9, p2, alive_is, q1, q2, r11, hsame]); (with_reducible first | apply Tot.of (qaa rfl) | apply Tot.gbl (b := true) | apply Tot.gbl (b := false) | apply Tot.bql (b := true) | apply Tot.bql (b := false) | (apply Tot.gtr_t; omega) | (apply Tot.eql_t; omega) | (apply Tot.eql_f; omega) | (apply Tot.neq_t; omega) | (apply Tot.neq_f; omega))))
            ((try conv => arg 2; simp (disch := first | omega | assumption) only [qac, qau, qaj, qad, qap, qab, qae, List.take_left']); refine Tot.ret ?_)
            rfl
          · (repeat' first | (with_reducible first | apply Tot.of (qaa rfl) | apply Tot.of (qaq rfl) | apply Tot.of (qa3 rfl) | apply Tot.of (qah rfl) | apply Tot.of (qav rfl) | apply Tot.of (qas rfl) | apply Tot.of (st_inl rfl) | apply Tot.of (qak rfl) | apply Tot.gbl (b := true) | apply Tot.gbl (b := false) | apply Tot.bql (b := true) | apply Tot.bql (b := false) | apply Tot.ift | apply Tot.iff | apply Tot.iftt | apply Tot.ifft | apply Tot.ifff) | ((conv => arg 2; arg 1; simp (disch := first | omega | assumption) only [qa8, qaw, Option.map_some, qal, qbk, Nat.zero_add, qa6, ofA3, List.length_append, List.length_cons, List.length_nil, un_not, Bool.not_true, qa5, qbb, qaz, qai, qam, app_one, qbj, qbc, ld_sh, qa9, ldc0, ldcS, sto_sh, stoc0, stocS, ext0, extS, Nat.reduceAdd, hsl, rx_box, qbd, qa7, rx_lay, r20, pr1, h1, r23, hsz, r9, p2, alive_is, q1, q2]); (with_reducible first | apply Tot.of (qaa rfl) | apply Tot.gbl (b := true) | apply Tot.gbl (b := false) | apply Tot.bql (b := true) | apply Tot.bql (b := false) | (apply Tot.gtr_t; omega) | (apply Tot.eql_t; omega) | (apply Tot.eql_f; omega) | (apply Tot.neq_t; omega) | (apply Tot.neq_f; omega))))
            ((try conv => arg 2; simp (disch := first | omega | assumption) only [qac, qau, qaj, qad, qap, qab, qae, List.take_left']); refine Tot.ret ?_)
            rfl
      · have htk : text.take 2000 = text := List.take_of_length_le (by omega)
        rw [htk] at p2
        rcases hsec with hg | ⟨rfl, s2, z, a2, b2, i2, q1, q2, hz⟩
        · (repeat' first | (with_reducible first | apply Tot.of (qaa rfl) | apply Tot.of (qaq rfl) | apply Tot.of (qa3 rfl) | apply Tot.of (qah rfl) | apply Tot.of (qav rfl) | apply Tot.of (qas rfl) | apply Tot.of (st_inl rfl) | apply Tot.of (qak rfl) | apply Tot.gbl (b := true) | apply Tot.gbl (b := false) | apply Tot.bql (b := true) | apply Tot.bql (b := false) | apply Tot.ift | apply Tot.iff | apply Tot.iftt | apply Tot.ifft | apply Tot.ifff) | ((conv => arg 2; arg 1; simp (disch := first | omega | assumption) only [qa8, qaw, Option.map_some, qal, qbk, Nat.zero_add, qa6, ofA3, List.length_append, List.length_cons, List.length_nil, un_not, Bool.not_true, qa5, qbb, qaz, qai, qam, app_one, qbj, qbc, qa9, ldc0, sto_sh, stoc0, stocS, ext0, extS, Nat.reduceAdd, rx_box, qbd, qa7, rx_lay, r20, pr1, h1, r23, hsz, r9, p2, alive_is]); (with_reducible first | apply Tot.of (qaa rfl) | apply Tot.gbl (b := false) | apply Tot.bql (b := false) | (apply Tot.gtr_t; omega) | (apply Tot.gtr_f; omega) | (apply Tot.eql_t; omega) | (apply Tot.eql_f; omega) | (apply Tot.neq_f; omega))))
          ((try conv => arg 2; simp (disch := first | omega | assumption) only [qac, qau, qaj, qad, qap, qab, qae, List.take_left']); refine Tot.ret ?_)
          rfl
        · rcases hz with ⟨rfl, rfl⟩ | rfl
          · (repeat' first | (with_reducible first | apply Tot.of (qaa rfl) | apply Tot.of (qaq rfl) | apply Tot.of (qa3 rfl) | apply Tot.of (qah rfl) | apply Tot.of (qav rfl) | apply Tot.of (qas rfl) | apply Tot.of (st_inl rfl) | apply Tot.of (qak rfl) | apply Tot.gbl (b := true) | apply Tot.gbl (b := false) | apply Tot.bql (b := true) | apply Tot.bql (b := false) | apply Tot.ift | apply Tot.iff | apply Tot.iftt | apply Tot.ifft | apply Tot.iftf | apply Tot.ifff) | ((conv => arg 2; arg 1; simp (disch := first | omega | assumption) only [qa8, qaw, Option.map_some, qal, qbk, Nat.zero_add, qa6, ofA3, List.length_append, List.length_cons, List.length_nil, un_not, Bool.not_true, qa5, qbb, qaz, qai, qam, app_one, qbj, qbc, ld_sh, qa9, ldc0, ldcS, sto_sh, stoc0, stocS, ext0, extS, Nat.reduceAdd, rx_box, qbd, qa7, rx_lay, r20, pr1, h1, r23, hsz, r9, p2, alive_is, q1, q2, r11, hsame]); (with_reducible first | apply Tot.of (qaa rfl) | apply Tot.gbl (b := true) | apply Tot.gbl (b := false) | apply Tot.bql (b := true) | apply Tot.bql (b := false) | (apply Tot.gtr_t; omega) | (apply Tot.gtr_f; omega) | (apply Tot.eql_t; omega) | (apply Tot.eql_f; omega) | (apply Tot.neq_t; omega) | (apply Tot.neq_f; omega))))
            ((try conv => arg 2; simp (disch := first | omega | assumption) only [qac, qau, qaj, qad, qap, qab, qae, List.take_left']); refine Tot.ret ?_)
            rfl
          · (repeat' first | (with_reducible first | apply Tot.of (qaa rfl) | apply Tot.of (qaq rfl) | apply Tot.of (qa3 rfl) | apply Tot.of (qah rfl) | apply Tot.of (qav rfl) | apply Tot.of (qas rfl) | apply Tot.of (st_inl rfl) | apply Tot.of (qak rfl) | apply Tot.gbl (b := true) | apply Tot.gbl (b := false) | apply Tot.bql (b := true) | apply Tot.bql (b := false) | apply Tot.ift | apply Tot.iff | apply Tot.iftt | apply Tot.ifft | apply Tot.ifff) | ((conv => arg 2; arg 1; simp (disch := first | omega | assumption) only [qa8, qaw, Option.map_some, qal, qbk, Nat.zero_add, qa6, ofA3, List.length_append, List.length_cons, List.length_nil, un_not, Bool.not_true, qa5, qbb, qaz, qai, qam, app_one, qbj, qbc, ld_sh, qa9, ldc0, ldcS, sto_sh, stoc0, stocS, ext0, extS, Nat.reduceAdd, rx_box, qbd, qa7, rx_lay, r20, pr1, h1, r23, hsz, r9, p2, alive_is, q1, q2]); (with_reducible first | apply Tot.of (qaa rfl) | apply Tot.gbl (b := true) | apply Tot.gbl (b := false) | apply Tot.bql (b := true) | apply Tot.bql (b := false) | (apply Tot.gtr_t; omega) | (apply Tot.gtr_f; omega) | (apply Tot.eql_t; omega) | (apply Tot.eql_f; omega) | (apply Tot.neq_t; omega) | (apply Tot.neq_f; omega))))
            ((try conv => arg 2; simp (disch := first | omega | assumption) only [qac, qau, qaj, qad, qap, qab, qae, List.take_left']); refine Tot.ret ?_)
            rfl
  · rw [print_n hc] at pr1
    by_cases h : 2000 < text.length
    · have hsl : sliceStrO (.str text) none (some (.int .i64 2000)) none = some (.str (text.take 2000)) := slStr_to (s := text) (n := 2000) (k := .i64) (by omega) (by omega)
      rcases hsec with hg | ⟨rfl, s2, z, a2, b2, i2, q1, q2, hz⟩
      · (repeat' first | (with_reducible first | apply Tot.of (qaa rfl) | apply Tot.of (qaq rfl) | apply Tot.of (qa3 rfl) | apply Tot.of (qah rfl) | apply Tot.of (qas rfl) | apply Tot.of (st_inl rfl) | apply Tot.of (qak rfl) | apply Tot.bql (b := true) | apply Tot.bql (b := false) | apply Tot.ift | apply Tot.iff) | ((conv => arg 2; arg 1; simp (disch := first | omega | assumption) only [Option.map_some, qal, qbk, Nat.zero_add, qa6, ofA3, List.length_append, List.length_cons, List.length_nil, qa5, qbb, qaz, qai, qam, app_one, qbj, qbc, qa9, ldc0, sto_sh, stoc0, stocS, ext0, extS, hsl, rx_box, qbd, qa7, rx_lay, r20, pr1, r9, p2, alive_is]); (with_reducible first | apply Tot.of (qaa rfl) | (apply Tot.gtr_t; omega) | (apply Tot.eql_f; omega) | (apply Tot.neq_f; omega))))
        ((try conv => arg 2; simp (disch := first | omega | assumption) only [qac, qau, qaj, qad, qap, qab, qae, List.take_left']); refine Tot.ret ?_)
        rfl
      · rcases hz with ⟨rfl, rfl⟩ | rfl
        · (repeat' first | (with_reducible first | apply Tot.of (qaa rfl) | apply Tot.of (qaq rfl) | apply Tot.of (qa3 rfl) | apply Tot.of (qah rfl) | apply Tot.of (qas rfl) | apply Tot.of (st_inl rfl) | apply Tot.of (qak rfl) | apply Tot.gbl (b := true) | apply Tot.bql (b := true) | apply Tot.bql (b := false) | apply Tot.ift | apply Tot.iff | apply Tot.iftt | apply Tot.iftf) | ((conv => arg 2; arg 1; simp (disch := first | omega | assumption) only [qa8, Option.map_some, qal, qbk, Nat.zero_add, qa6, ofA3, List.length_append, List.length_cons, List.length_nil, qa5, qbb, qaz, qai, qam, app_one, qbj, qbc, ld_sh, qa9, ldc0, ldcS, sto_sh, stoc0, stocS, ext0, extS, Nat.reduceAdd, hsl, rx_box, qbd, qa7, rx_lay, r20, pr1, r9, p2, alive_is, q1, q2, r11, hsame]); (with_reducible first | apply Tot.of (qaa rfl) | apply Tot.gbl (b := true) | apply Tot.bql (b := true) | (apply Tot.gtr_t; omega) | (apply Tot.eql_t; omega) | (apply Tot.eql_f; omega) | (apply Tot.neq_t; omega))))
          ((try conv => arg 2; simp (disch := first | omega | assumption) only [qac, qau, qaj, qad, qap, qab, qae, List.take_left']); refine Tot.ret ?_)
          rfl
        · (repeat' first | (with_reducible first | apply Tot.of (qaa rfl) | apply Tot.of (qaq rfl) | apply Tot.of (qa3 rfl) | apply Tot.of (qah rfl) | apply Tot.of (qas rfl) | apply Tot.of (st_inl rfl) | apply Tot.of (qak rfl) | apply Tot.gbl (b := true) | apply Tot.gbl (b := false) | apply Tot.bql (b := true) | apply Tot.bql (b := false) | apply Tot.ift | apply Tot.iff | apply Tot.iftt | apply Tot.ifft | apply Tot.ifff) | ((conv => arg 2; arg 1; simp (disch := first | omega | assumption) only [qa8, qaw, Option.map_some, qal, qbk, Nat.zero_add, qa6, ofA3, List.length_append, List.length_cons, List.length_nil, qa5, qbb, qaz, qai, qam, app_one, qbj, qbc, ld_sh, qa9, ldc0, ldcS, sto_sh, stoc0, stocS, ext0, extS, Nat.reduceAdd, hsl, rx_box, qbd, qa7, rx_lay, r20, pr1, r9, p2, alive_is, q1, q2]); (with_reducible first | apply Tot.of (qaa rfl) | apply Tot.gbl (b := true) | apply Tot.gbl (b := false) | apply Tot.bql (b := true) | apply Tot.bql (b := false) | (apply Tot.gtr_t; omega) | (apply Tot.eql_t; omega) | (apply Tot.eql_f; omega) | (apply Tot.neq_t; omega))))
          ((try conv => arg 2; simp (disch := first | omega | assumption) only [qac, qau, qaj, qad, qap, qab, qae, List.take_left']); refine Tot.ret ?_)
          rfl
    · have htk : text.take 2000 = text := List.take_of_length_le (by omega)
      rw [htk] at p2
      rcases hsec with hg | ⟨rfl, s2, z, a2, b2, i2, q1, q2, hz⟩
      · (repeat' first | (with_reducible first | apply Tot.of (qaa rfl) | apply Tot.of (qa3 rfl) | apply Tot.of (qah rfl) | apply Tot.of (qas rfl) | apply Tot.of (st_inl rfl) | apply Tot.of (qak rfl) | apply Tot.bql (b := true) | apply Tot.bql (b := false) | apply Tot.ift | apply Tot.iff) | ((conv => arg 2; arg 1; simp (disch := first | omega | assumption) only [Option.map_some, qal, qbk, Nat.zero_add, qa6, ofA3, List.length_append, List.length_cons, List.length_nil, qa5, qbb, qaz, qai, qam, app_one, qbj, qbc, qa9, ldc0, sto_sh, stoc0, stocS, ext0, extS, rx_box, qbd, qa7, rx_lay, r20, pr1, r9, p2, alive_is]); (with_reducible first | apply Tot.of (qaa rfl) | (apply Tot.gtr_f; omega) | (apply Tot.eql_f; omega) | (apply Tot.neq_f; omega))))
        ((try conv => arg 2; simp (disch := first | omega | assumption) only [qac, qau, qaj, qad, qap, qab, qae, List.take_left']); refine Tot.ret ?_)
        rfl
      · rcases hz with ⟨rfl, rfl⟩ | rfl
        · (repeat' first | (with_reducible first | apply Tot.of (qaa rfl) | apply Tot.of (qa3 rfl) | apply Tot.of (qah rfl) | apply Tot.of (qas rfl) | apply Tot.of (st_inl rfl) | apply Tot.of (qak rfl) | apply Tot.gbl (b := true) | apply Tot.bql (b := true) | apply Tot.bql (b := false) | apply Tot.iff | apply Tot.iftt | apply Tot.iftf) | ((conv => arg 2; arg 1; simp (disch := first | omega | assumption) only [qa8, Option.map_some, qal, qbk, Nat.zero_add, qa6, ofA3, List.length_append, List.length_cons, List.length_nil, qa5, qbb, qaz, qai, qam, app_one, qbj, qbc, ld_sh, qa9, ldc0, ldcS, sto_sh, stoc0, stocS, ext0, extS, Nat.reduceAdd, rx_box, qbd, qa7, rx_lay, r20, pr1, r9, p2, alive_is, q1, q2, r11, hsame]); (with_reducible first | apply Tot.of (qaa rfl) | apply Tot.gbl (b := true) | apply Tot.bql (b := true) | (apply Tot.gtr_f; omega) | (apply Tot.eql_t; omega) | (apply Tot.eql_f; omega) | (apply Tot.neq_t; omega))))
          ((try conv => arg 2; simp (disch := first | omega | assumption) only [qac, qau, qaj, qad, qap, qab, qae, List.take_left']); refine Tot.ret ?_)
          rfl
        · (repeat' first | (with_reducible first | apply Tot.of (qaa rfl) | apply Tot.of (qa3 rfl) | apply Tot.of (qah rfl) | apply Tot.of (qas rfl) | apply Tot.of (st_inl rfl) | apply Tot.of (qak rfl) | apply Tot.gbl (b := true) | apply Tot.gbl (b := false) | apply Tot.bql (b := true) | apply Tot.bql (b := false) | apply Tot.iff | apply Tot.iftt | apply Tot.ifft | apply Tot.ifff) | ((conv => arg 2; arg 1; simp (disch := first | omega | assumption) only [qa8, qaw, Option.map_some, qal, qbk, Nat.zero_add, qa6, ofA3, List.length_append, List.length_cons, List.length_nil, qa5, qbb, qaz, qai, qam, app_one, qbj, qbc, ld_sh, qa9, ldc0, ldcS, sto_sh, stoc0, stocS, ext0, extS, Nat.reduceAdd, rx_box, qbd, qa7, rx_lay, r20, pr1, r9, p2, alive_is, q1, q2]); (with_reducible first | apply Tot.of (qaa rfl) | apply Tot.gbl (b := true) | apply Tot.gbl (b := false) | apply Tot.bql (b := true) | apply Tot.bql (b := false) | (apply Tot.gtr_f; omega) | (apply Tot.eql_t; omega) | (apply Tot.eql_f; omega) | (apply Tot.neq_t; omega))))
          ((try conv => arg 2; simp (disch := first | omega | assumption) only [qac, qau, qaj, qad, qap, qab, qae, List.take_left']); refine Tot.ret ?_)
          rfl
end Go.Vm.Rx
