/- RxS20, RxS21, RxS22 in one text. -/
import Derived.Test.YtmaipfiikbcfmaaDoorRxS19
import Derived.Test.YtmaipfiikbcfmaaDoorRxPure3
set_option linter.all false
/- What the reference reads of words. -/
namespace Go.Vm.Rx
open Go Go.Proofs P
set_option linter.unusedVariables false
set_option linter.unusedSimpArgs false
set_option maxRecDepth 10000
set_option maxHeartbeats 800000
variable {l : List Word} (hl : l.length ≤ 1000000) (hw : ∀ w, w ∈ l → w.t.length ≤ 100000000)
theorem st_new (A : St) (c0 : Slot) (cs cs' : List D) : A ++ [c0, .cells cs] = st (A ++ [c0, .cells cs']) (A.length + 1) cs := by simp [st]
theorem st_new2 (A : St) (c0 : Slot) (cs cs' : List D) : st (A ++ [c0, .cells cs']) (A.length + 1) cs = A ++ [c0, .cells cs] := by simp [st]
theorem st_new3 (A L : St) (c0 : Slot) (cs cs' : List D) : st (A ++ c0 :: .cells cs' :: L) (A.length + 1) cs = A ++ c0 :: .cells cs :: L := by simp [st]
theorem st_takeF (A L : St) (k : Nat) (cs : List D) (h : A.length ≤ k) : (st (A ++ L) k cs).take A.length = A := by
  unfold st
  rw [List.take_set_of_le (by omega)]
  simp
/-- an expression, a place and a fault -/
def readD (x : Rx × Nat × Int) : D := .tup [encRx x.1, .int .i64 (x.2.1 : Nat), .int .i64 x.2.2]
include hl hw
theorem s14 (A : St) : f14 mL (Run Tryd.prog rxA) (Dcall Tryd.prog rxA) (encL 3 (l.map encW)) A = some (.ret (readD (readP l)), A) := by
  obtain ⟨x, hx⟩ := (ends hw (8 * l.length + 4)).alt 0 0 (by omega) (by omega)
  have hfc := (facts hw (8 * l.length + 4)).alt 0 0 x (by omega) hx
  unfold readP
  rw [hx]
  unfold f14
  refine Tot.eq ?_
  (repeat' first | (with_reducible first | apply Tot.of (qab rfl) | apply Tot.of (st_bind rfl) | apply Tot.of (qa1 rfl)) | ((conv => arg 2; arg 1; simp (disch := first | omega | assumption) only [Nat.zero_add, box_agg2, allCells_nil, allCells_int, cond_true, qa6, List.length_append, List.length_cons, List.length_nil, qah, app_one, app_nil', qbm, lay_encL, allCells_encL]); (with_reducible first | apply Tot.of (qab rfl))))
  rw [st_new A _ _ (rdC l 0 0 0 0)]
  conv => arg 2; arg 1; simp (disch := first | omega | assumption) only [qa2, r33]
  have hq := (refSpec hl hw (8 * l.length + 4)).alt (A ++ [.cells [.int .i64 0, .str [], .sl .full 0 []], .cells (rdC l 0 0 0 0)]) (A.length + 1) 0 0 x (by simp) (by omega) (by omega) hx
  refine Tot.bn hq fun z hz => ?_
  have hfl := fun c a i c0 L => s34 (A ++ c0 :: .cells (rdC l 0 0 0 0) :: L) (A.length + 1) l i 0 a c (by simp)
  simp only [st_new3] at hfl
  have hz0 : ((0:Nat):Int) = 0 := rfl
  have htk := fun L k cs h => st_takeF A L k cs h
  rcases x with ⟨a, c⟩ | ⟨r, j⟩
  · obtain ⟨e, i', rfl, he, hi'⟩ := hz
    obtain ⟨hf1, hf2, hf3⟩ : 0 ≤ a ∧ a ≤ l.length ∧ (c = 90 ∨ c = 91) := hfc
    have hc : c ≠ 0 := by omega
    simp only [st_new2]
    (repeat' first | (with_reducible first | apply Tot.of (qab rfl) | apply Tot.of (qa4 rfl) | apply Tot.of (qaj rfl) | apply Tot.of (qaw rfl) | apply Tot.of (st_inl rfl) | apply Tot.of (st_gs rfl) | apply Tot.of (qat rfl) | apply Tot.gbl (b := false) | apply Tot.bql (b := true) | apply Tot.bql (b := false) | apply Tot.ift | apply Tot.iff | apply Tot.ifft) | ((conv => arg 2; arg 1; simp (disch := first | omega | assumption) only [qa0, Option.map_some, Option.bind_some, qal, qan, qaf, Nat.zero_add, qa6, ofA3, packD, List.length_append, List.length_cons, List.length_nil, sameAd_refl, and_self, qa3, qbb, qba, qaz, qah, app_one, app_nil', qbm, ld_sh, qbi, ldc0, ldcS, sto_sh, qbq, stoc0, stocS, Nat.reduceAdd, lay3, hz0, rx_lay, rdl3, rdl4]); (with_reducible first | apply Tot.of (qab rfl) | apply Tot.of (qbn rfl) | apply Tot.bql (b := false) | (apply Tot.eql_f; omega) | (apply Tot.neq_f; omega))))
    ((try conv => arg 2; simp (disch := first | omega | assumption) only [qad, qak, qbf, shut_sl, qbo, shut_tup, qas, qao, own_full, qav, qac, qag, qaq, qbg, qbk, qap, qam, canon_nil, qaa, qae, List.take_left']); refine Tot.ret ?_)
    rfl
  · cases (show z = _ from hz)
    have g : Good l.length 0 r j := hfc
    have g1 := g.size; have g2 := g.le
    have hch := s16 r (Rx.Nm.ok r g.nm (by omega))
    simp only [st_new2]
    by_cases hj : j < l.length
    · simp only [if_pos hj]
      (repeat' first | (with_reducible first | apply Tot.of (qab rfl) | apply Tot.of (qau rfl) | apply Tot.of (qa4 rfl) | apply Tot.of (qaj rfl) | apply Tot.of (qax rfl) | apply Tot.of (qaw rfl) | apply Tot.of (st_inl rfl) | apply Tot.of (st_gs rfl) | apply Tot.of (qat rfl) | apply Tot.gbl (b := true) | apply Tot.bql (b := true) | apply Tot.ift | apply Tot.iftt | (apply Tot.lss_t; omega)) | ((conv => arg 2; arg 1; simp (disch := first | omega | assumption) only [qa9, Option.map_some, Option.bind_some, qal, qan, qaf, Nat.zero_add, qa6, ofA3, packD, List.length_append, List.length_cons, List.length_nil, sameAd_refl, and_self, qa3, qbb, qba, qaz, qah, qag, qa2, qbj, app_one, app_nil', qbm, ld_sh, qbi, ldc0, ldcS, sto_sh, qbq, stoc0, stocS, List.length_map, Nat.reduceAdd, lay3, hz0, rx_lay, rdl1, rdl3, rdl4, r34, hfl]); (with_reducible first | apply Tot.of (qab rfl) | apply Tot.of (qbn rfl) | apply Tot.bql (b := true) | (apply Tot.eql_t; omega) | (apply Tot.neq_f; omega))))
      ((try conv => arg 2; simp (disch := first | omega | assumption) only [qad, qak, qbf, shut_sl, qbo, shut_tup, qas, qao, own_full, qav, qac, qag, qaq, qbg, qbk, qap, qam, canon_nil, qaa, qae, List.take_left']); refine Tot.ret ?_)
      rfl
    · simp only [if_neg hj]
      by_cases hcz : r.check = 0
      · rw [if_pos hcz]
        rw [hcz] at hch
        (repeat' first | (with_reducible first | apply Tot.of (qab rfl) | apply Tot.of (qa4 rfl) | apply Tot.of (qaj rfl) | apply Tot.of (qaw rfl) | apply Tot.of (st_inl rfl) | apply Tot.of (qat rfl) | apply Tot.gbl (b := true) | apply Tot.bql (b := true) | apply Tot.bql (b := false) | apply Tot.iff | apply Tot.iftt | (apply Tot.lss_f; omega)) | ((conv => arg 2; arg 1; simp (disch := first | omega | assumption) only [qa9, Option.map_some, Option.bind_some, qal, qan, qaf, Nat.zero_add, qa6, ofA3, packD, List.length_append, List.length_cons, List.length_nil, qa3, qbb, qba, qaz, qah, qbj, app_one, app_nil', qbm, ld_sh, qbi, ldc0, ldcS, sto_sh, qbq, stoc0, stocS, List.length_map, Nat.reduceAdd, hz0, rx_lay, qbr, rdl1, rdl3, r16, hch, qbh]); (with_reducible first | apply Tot.of (qab rfl) | apply Tot.bql (b := false) | (apply Tot.eql_t; omega) | (apply Tot.neq_t; omega))))
        ((try conv => arg 2; simp (disch := first | omega | assumption) only [qad, qak, shut_tup, qas, qao, qav, qac, qag, qbk, qap, qam, qaa, qae, List.take_left', rx_shut, qbh]); refine Tot.ret ?_)
        rfl
      · rw [if_neg hcz]
        (repeat' first | (with_reducible first | apply Tot.of (qab rfl) | apply Tot.of (qa4 rfl) | apply Tot.of (qaj rfl) | apply Tot.of (qaw rfl) | apply Tot.of (st_inl rfl) | apply Tot.of (qat rfl) | apply Tot.gbl (b := true) | apply Tot.bql (b := true) | apply Tot.bql (b := false) | apply Tot.ift | apply Tot.iff | apply Tot.iftt | (apply Tot.lss_f; omega)) | ((conv => arg 2; arg 1; simp (disch := first | omega | assumption) only [qa9, Option.map_some, Option.bind_some, qal, qan, qaf, Nat.zero_add, qa6, ofA3, packD, List.length_append, List.length_cons, List.length_nil, qa3, qbb, qba, qaz, qah, qbj, app_one, app_nil', qbm, ld_sh, qbi, ldc0, ldcS, sto_sh, qbq, stoc0, stocS, List.length_map, Nat.reduceAdd, lay3, hz0, rx_lay, qbr, rdl1, rdl3, r16, hch, qbh]); (with_reducible first | apply Tot.of (qab rfl) | apply Tot.bql (b := false) | (apply Tot.eql_t; omega) | (apply Tot.neq_t; omega) | (apply Tot.neq_f; omega))))
        ((try conv => arg 2; simp (disch := first | omega | assumption) only [qad, qak, qbf, shut_sl, qbo, shut_tup, qas, qao, own_full, qav, qac, qag, qaq, qbg, qbk, qap, qam, canon_nil, qaa, qae, List.take_left']); refine Tot.ret ?_)
        rfl
end Go.Vm.Rx

/- What the reference parses a text as. -/
namespace Go.Vm.Rx
open Go Go.Proofs P
set_option linter.unusedVariables false
set_option linter.unusedSimpArgs false
set_option maxRecDepth 10000
set_option maxHeartbeats 2000000
theorem idx_accD {α : Type} {f : α → D} {l : List α} {b : Option Nat} {n c : Nat} (hb : AccOk b n (l.map f)) {i : Nat} (h : i < l.length) (g : Bool) (k : IntKind) :
    indexAddrO n g (accD b c n (l.map f)) (.int k i) = mp ((f l[i]).cellsT g) .peek := by
  cases b with
  | none => simp [accD, indexAddrO, D.int?, esOk, mp, h]
  | some e =>
    rcases hb with hb | hb | ⟨_, h2⟩
    · cases hb
    · cases hb; simp [accD, indexAddrO, D.int?, esOk, mp, h]
    · simp only [List.map_eq_nil_iff] at h2; subst h2; simp at h
theorem readP_at {l : List Word} (hw : ∀ w, w ∈ l → w.t.length ≤ 100000000) : (readP l).2.1 ≤ l.length := by
  unfold readP
  obtain ⟨x, hx⟩ := (ends hw (8 * l.length + 4)).alt 0 0 (by omega) (by omega)
  have hfc := (facts hw (8 * l.length + 4)).alt 0 0 x (by omega) hx
  rw [hx]
  rcases x with ⟨a, c⟩ | ⟨r, j⟩
  · exact hfc.2.1
  · dsimp only
    split
    · exact Nat.le_of_lt ‹_›
    · split <;> exact Nat.zero_le _
theorem readP_no {l : List Word} (h : (readP l).2.2 ≠ 0) : (readP l).1 = Rx.no := by
  unfold readP at h ⊢
  split
  · rfl
  · rfl
  · rename_i r j hx
    rw [hx] at h
    dsimp only at h
    split
    · rfl
    · rename_i h1
      rw [if_neg h1] at h
      split
      · rename_i h2
        rw [if_pos h2] at h
        exact absurd rfl h
      · rfl
theorem sameAd_peek (cs : List D) (A B : St) : sameAd (.peek cs) A B = True := rfl
/-- an expression, a line, a column and a fault -/
def parseD (x : Rx × Int × Int × Int) : D := .tup [encRx x.1, .int .i64 x.2.1, .int .i64 x.2.2.1, .int .i64 x.2.2.2]
theorem s10_end (A : St) (rows : List (List Word)) (b : Option Nat) (M : Nat) (hM : M ≤ 10000000) (r0 r1 r2 : D) (y : D) (hl : rows.flatten.length ≤ 1000000) (hrl : rows.length ≤ 1000001) (hw : ∀ w, w ∈ rows.flatten → WordOk M w) (hb : AccOk b 3 (rows.flatten.map encW)) :
    iterK (f10_s0 mL (Run Tryd.prog rxA) (Dcall Tryd.prog rxA) A) (Env.mk (sp [(2, .ref A.length 0), (3, encL 1 (rows.map encRow)), (3, accD b (A.length + 1) 3 (rows.flatten.map encW)), (0, .int .i64 (rows.length : Nat)), (13, y)] 77) []) (accA b (A ++ [.cells [r0, r1, r2]]) (rows.flatten.map encW)) =
      some (.ret (parseD (parseP (.ok rows))), A) := by
  have hw' : ∀ w, w ∈ rows.flatten → w.t.length ≤ 100000000 := fun w hm => by have := (hw w hm).2.2.2.1; omega
  have hrd := fun A => s14 hl hw' A
  have hcn := acc_canon (c := A.length + 1) hb (plainWs rows.flatten)
  have hat := readP_at hw'
  have hno := readP_no (l := rows.flatten)
  have hres : parseP (.ok rows) = ((readP rows.flatten).1, (atP rows.flatten (readP rows.flatten).2.1 (readP rows.flatten).2.2).1, (atP rows.flatten (readP rows.flatten).2.1 (readP rows.flatten).2.2).2, (readP rows.flatten).2.2) := rfl
  rw [hres]
  have hx := fun i h g k => idx_accD (c := A.length + 1) hb (i := i) h g k
  revert hl hw hrd hcn hat hno hx hb
  generalize rows.flatten = l
  intro hl hw hb hrd hcn hat hno hx
  generalize readP l = q at hrd hat hno ⊢
  obtain ⟨r, at_, f⟩ := q
  unfold readD at hrd
  dsimp only at hrd hat hno ⊢
  have hlm : ((l.map encW).length : Int) = (l.length : Int) := by simp
  refine Tot.eq (Tot.iter ?_)
  conv => arg 2; arg 1; unfold f10_s0
  by_cases h0 : f = 0
  · subst h0
    cases b <;> simp only [accA, accD] at hcn hx ⊢
    all_goals ((repeat' first | (with_reducible first | apply Tot.of (qau rfl) | apply Tot.of (qa1 rfl) | apply Tot.of (qa4 rfl) | apply Tot.of (qaj rfl) | apply Tot.of (qax rfl) | apply Tot.of (qaw rfl) | apply Tot.of (st_inr rfl) | apply Tot.of (qar rfl) | apply Tot.bql (b := true) | apply Tot.bql (b := false) | apply Tot.ift | apply Tot.iff) | ((conv => arg 2; arg 1; simp (disch := first | omega | assumption) only [qad, Option.map_some, Option.bind_some, qak, shut_tup, qas, qao, qav, qac, qal, Nat.zero_add, qa6, ofA3, packD, List.length_append, List.length_cons, List.length_nil, qa3, qbb, qba, qaz, qah, qag, qbk, qap, qam, qaa, qae, qbj, app_one, app_nil', qbm, ld_sh, qbi, ldc0, ldcS, sto_sh, qbq, stoc0, stocS, List.take_left', List.length_map, ext0, extS, Nat.reduceAdd, rx_lay, qbr, r14, hcn, hrd]); (with_reducible first | apply Tot.of (qab rfl) | (apply Tot.lss_f; omega) | (apply Tot.eql_t; omega)))); ((try conv => arg 2; simp (disch := first | omega | assumption) only [rx_shut, qbh]); refine Tot.ret ?_); rfl)
  · cases hno h0
    by_cases h4 : l.length = 0
    · cases b <;> simp only [accA, accD] at hcn hx ⊢
      all_goals ((repeat' first | (with_reducible first | apply Tot.of (qab rfl) | apply Tot.of (qau rfl) | apply Tot.of (qa1 rfl) | apply Tot.of (qa4 rfl) | apply Tot.of (qaj rfl) | apply Tot.of (qax rfl) | apply Tot.of (qaw rfl) | apply Tot.of (st_inr rfl) | apply Tot.of (qar rfl) | apply Tot.gbl (b := true) | apply Tot.gbl (b := false) | apply Tot.gbn | apply Tot.bql (b := true) | apply Tot.bql (b := false) | apply Tot.ift | apply Tot.iff | apply Tot.iftt | apply Tot.ifft | apply Tot.iftf | apply Tot.ifff) | ((conv => arg 2; arg 1; simp (disch := first | omega | assumption) only [qa9, qa0, qad, Option.map_some, Option.bind_some, qak, shut_tup, qas, qao, qav, qac, qal, lenSl_sl, Nat.zero_add, qa6, ofA3, packD, List.length_append, List.length_cons, List.length_nil, qa3, qbb, qba, qaz, qah, qag, qbk, qap, qam, qaa, qae, qbj, app_one, app_nil', qbm, ld_sh, qbi, ldc0, ldcS, sto_sh, qbq, stoc0, stocS, List.take_left', List.length_map, ext0, extS, Nat.reduceAdd, rx_lay, qbr, r14, hcn, hrd]); (with_reducible first | apply Tot.of (qab rfl) | apply Tot.bql (b := true) | apply Tot.bql (b := false) | (apply Tot.lss_f; omega) | (apply Tot.eql_t; omega) | (apply Tot.eql_f; omega) | (apply Tot.eql; all_goals intro hsp)))))
      all_goals (((try conv => arg 2; simp (disch := first | omega | assumption) only [rx_shut, qbh]); refine Tot.ret ?_))
      all_goals (unfold parseD atP; (repeat' split) <;> first | rfl | (exfalso; omega))
    · by_cases h5 : at_ < l.length
      · have h6 := hx at_ h5
        have hw5 := hw l[at_] (List.getElem_mem h5)
        have hgd : l.getD at_ default = l[at_] := by rw [List.getD_eq_getElem?_getD, List.getElem?_eq_getElem h5]; rfl
        generalize l[at_] = w at h6 hw5 hgd
        cases b <;> simp only [accA, accD] at hcn h6 ⊢
        all_goals ((repeat' first | (with_reducible first | apply Tot.of (qab rfl) | apply Tot.of (qau rfl) | apply Tot.of (qa1 rfl) | apply Tot.of (qa4 rfl) | apply Tot.of (qaj rfl) | apply Tot.of (qax rfl) | apply Tot.of (qbl rfl) | apply Tot.of (qaw rfl) | apply Tot.of (st_inr rfl) | apply Tot.of (st_bngs rfl) | apply Tot.of (qar rfl) | apply Tot.gbl (b := true) | apply Tot.gbl (b := false) | apply Tot.gbn | apply Tot.bql (b := true) | apply Tot.bql (b := false) | apply Tot.ift | apply Tot.iff | apply Tot.iftt | apply Tot.ifft | apply Tot.iftf | apply Tot.ifff | (apply Tot.lss_t; omega)) | ((conv => arg 2; arg 1; simp (disch := first | omega | assumption) only [qa9, qa0, qad, Option.map_some, Option.bind_some, qak, shut_tup, qas, qao, qav, qac, qal, fieldAddr_peek, lenSl_sl, load_peek, qbc, List.drop_zero, List.drop_succ_cons, Nat.zero_add, qa6, ofA3, packD, List.length_append, List.length_cons, List.length_nil, and_self, qa3, qbb, qba, qaz, qah, qag, qbk, qap, qam, qaa, qae, qbj, app_one, app_nil', qbm, ld_sh, qbi, ldc0, ldcS, sto_sh, qbq, stoc0, stocS, List.take_left', List.length_map, ext0, extS, Nat.reduceAdd, sameAd_peek, rx_lay, qbr, r14, hcn, hrd, h6, cellW, cellsW]); (with_reducible first | apply Tot.of (qab rfl) | apply Tot.of (qbn rfl) | apply Tot.bql (b := true) | apply Tot.bql (b := false) | (apply Tot.lss_f; omega) | (apply Tot.eql_f; omega) | (apply Tot.eql; all_goals intro hsp)))))
        all_goals (((try conv => arg 2; simp (disch := first | omega | assumption) only [rx_shut, qbh]); refine Tot.ret ?_))
        all_goals (unfold parseD atP; rw [hgd]; (repeat' split) <;> first | rfl | (exfalso; omega))
      · have h6 := hx (l.length - 1) (by omega)
        have hi : ((l.length - 1 : Nat) : Int) = (l.length : Int) - 1 := by omega
        simp only [hi] at h6
        have h8 : l.length - 1 < l.length := by omega
        have hw5 := hw l[l.length - 1] (List.getElem_mem h8)
        have hgd : l.getD (l.length - 1) default = l[l.length - 1] := by rw [List.getD_eq_getElem?_getD, List.getElem?_eq_getElem h8]; rfl
        generalize l[l.length - 1] = w at h6 hw5 hgd
        obtain ⟨⟨g1, g2⟩, g3, g4, g5, g6⟩ := hw5
        have hlw : ∀ a b c, layCells true 3 0 [a, b, c] (encW w) = some [.str w.t, .int .i64 w.line, .int .i64 w.col] := fun a b c => rfl
        have hcw : ofCells true [D.str w.t, .int .i64 w.line, .int .i64 w.col] 0 3 = some (encW w) := rfl
        cases b <;> simp only [accA, accD] at hcn h6 ⊢
        all_goals ((repeat' first | (with_reducible first | apply Tot.of (qab rfl) | apply Tot.of (qau rfl) | apply Tot.of (qa1 rfl) | apply Tot.of (qa4 rfl) | apply Tot.of (qaj rfl) | apply Tot.of (qax rfl) | apply Tot.of (qbl rfl) | apply Tot.of (qaw rfl) | apply Tot.of (st_inr rfl) | apply Tot.of (st_bngs rfl) | apply Tot.of (qar rfl) | apply Tot.gbl (b := true) | apply Tot.gbl (b := false) | apply Tot.gbn | apply Tot.bql (b := true) | apply Tot.bql (b := false) | apply Tot.ift | apply Tot.iff | apply Tot.iftt | apply Tot.ifft | apply Tot.iftf | apply Tot.ifff | (apply Tot.lss_f; omega)) | ((conv => arg 2; arg 1; simp (disch := first | omega | assumption) only [qa9, qa0, qad, Option.map_some, Option.bind_some, qbd, binO_sub, qa8, qak, shut_tup, qas, qao, qav, qac, qal, qaf, lenSl_sl, qbp, load_peek, qbc, ofCellsS, Nat.zero_add, Nat.add_zero, qa6, ofA3, packD, List.length_append, List.length_cons, List.length_nil, and_self, qa3, qbb, qba, qaz, qah, qag, qbk, qap, qam, qaa, qae, qbj, app_one, app_nil', qbm, ld_sh, qbi, ldc0, ldcS, sto_sh, qbq, stoc0, stocS, List.take_left', List.length_map, ext0, extS, Nat.reduceAdd, sameAd_ref, get_sh, List.getElem?_cons_succ, rx_lay, qbr, r14, hcn, hrd, h6, cellW, cellsW, hlw, hcw]); (with_reducible first | apply Tot.of (qab rfl) | apply Tot.of (qbn rfl) | apply Tot.bql (b := true) | apply Tot.bql (b := false) | (apply Tot.lss_f; omega) | (apply Tot.eql_f; omega) | (apply Tot.eql; all_goals intro hsp)))))
        all_goals (((try conv => arg 2; simp (disch := first | omega | assumption) only [rx_shut, qbh]); refine Tot.ret ?_))
        all_goals (unfold parseD atP; rw [hgd]; (repeat' split) <;> first | rfl | (exfalso; omega))
end Go.Vm.Rx

/- What the reference parses a text as: all of it. -/
namespace Go.Vm.Rx
open Go Go.Proofs P
set_option linter.unusedVariables false
set_option linter.unusedSimpArgs false
set_option maxRecDepth 10000
set_option maxHeartbeats 2000000
theorem s10_loop (A : St) (rows : List (List Word)) (M : Nat) (hM : M ≤ 10000000) (r0 r1 r2 : D) (hl : rows.flatten.length ≤ 1000000) (hrl : rows.length ≤ 1000001) (hw : ∀ w, w ∈ rows.flatten → WordOk M w) :
    ∀ (t : List (List Word)) (i : Nat) (acc : List Word) (b : Option Nat) (y : D), rows.drop i = t → i ≤ rows.length → acc ++ t.flatten = rows.flatten → AccOk b 3 (acc.map encW) →
    iterK (f10_s0 mL (Run Tryd.prog rxA) (Dcall Tryd.prog rxA) A) (Env.mk (sp [(2, .ref A.length 0), (3, encL 1 (rows.map encRow)), (3, accD b (A.length + 1) 3 (acc.map encW)), (0, .int .i64 (i : Nat)), (13, y)] 77) []) (accA b (A ++ [.cells [r0, r1, r2]]) (acc.map encW)) =
      some (.ret (parseD (parseP (.ok rows))), A) := by
  intro t
  induction t with
  | nil =>
    intro i acc b y ht hil hacc hb
    have h1 := drop_len ht
    simp only [List.flatten_nil, List.append_nil] at hacc
    subst hacc
    have hi : i = rows.length := by omega
    subst hi
    exact s10_end A rows b M hM r0 r1 r2 y hl hrl hw hb
  | cons x t ih =>
    intro i acc b y ht hil hacc hb
    have h1 := drop_lt ht
    have hx := idx_drop (f := encRow) ht 1 false .i64
    have hlen := congrArg List.length hacc
    simp only [List.length_append, List.flatten_cons] at hlen
    rw [List.flatten_cons, ← List.append_assoc] at hacc
    have hap := fun s0 => appL_1 (A := A) (w := 32) (s0 := s0) (new := x.map encW) hb (by simp; omega) (by omega)
    simp only [← List.map_append] at hap
    refine Tot.eq (Tot.iter ?_)
    conv => arg 2; arg 1; unfold f10_s0
    have hc : (encRow x).cellsT false = some [encRow x] := rfl
    have hf : ofCells false [encRow x] 0 1 = some (encRow x) := rfl
    have he : encRow x = encL 3 (x.map encW) := rfl
    (repeat' first | (with_reducible first | apply Tot.of (qab rfl) | apply Tot.of (qau rfl) | apply Tot.of (qa4 rfl) | apply Tot.of (qaj rfl) | apply Tot.of (st_inl rfl) | apply Tot.bql (b := true) | apply Tot.ift) | ((conv => arg 2; arg 1; simp (disch := first | omega | assumption) only [qbd, qa8, load_peek, qbc, qa3, qbb, qba, qaz, qah, qbj, cell_encL, List.length_map, hx, he, hap]); (with_reducible first | apply Tot.of (qab rfl) | (apply Tot.lss_t; omega))))
    (refine Tot.of_eq ?_; (conv => lhs; simp (disch := first | omega | assumption) only [qa3, qbb, qba]); have := ih (i + 1) (acc ++ x) (accNext b 3 (x.map encW)) y (drop_succ ht) (by omega) hacc (by rw [List.map_append]; exact hb.next _); exact this)
theorem s10 (s : Str) (hs : s.length ≤ 1000000) (x : Except (Int × Int) (List (List Word))) (hx : textP s x) (A : St) : f10 mL (Run Tryd.prog rxA) (Dcall Tryd.prog rxA) (.str s) A = some (.ret (parseD (parseP x)), A) := by
  have hln := fun A => s28 s (by omega) x hx A
  unfold f10
  refine Tot.eq ?_
  rcases x with ⟨p, c⟩ | rows
  · simp only [linesRes] at hln
    (repeat' first | (with_reducible first | apply Tot.of (qab rfl) | apply Tot.of (st_bind rfl) | apply Tot.of (qa1 rfl) | apply Tot.of (qa4 rfl) | apply Tot.of (qaw rfl) | apply Tot.of (qat rfl) | apply Tot.bql (b := true) | apply Tot.ift) | ((conv => arg 2; arg 1; simp (disch := first | omega | assumption) only [qa6, ofA3, qaz, qah, qaq, qbi, ldc0, qbq, stoc0, ext0, extS, lay3, r28, hln]); (with_reducible first | apply Tot.of (qab rfl) | (apply Tot.neq_f; omega))))
    ((try conv => arg 2; simp (disch := first | omega | assumption) only [qad, qak, qbf, shut_sl, qbo, shut_tup, qas, qao, own_full, qav, qac, packD, qag, qaq, qbg, qbk, qap, qam, canon_nil, qaa, qae, List.take_left']); refine Tot.ret ?_)
    rfl
  · obtain ⟨h1, h2, h3⟩ := textP_ok hx
    simp only [linesRes, List.nil_append] at hln
    (repeat' first | (with_reducible first | apply Tot.of (qaw rfl) | apply Tot.of (st_it rfl) | apply Tot.bql (b := false) | apply Tot.iff) | ((conv => arg 2; arg 1; simp (disch := first | omega | assumption) only [qa6, qah, qaq, ext0, extS, r28, hln]); (with_reducible first | apply Tot.of (qab rfl) | (apply Tot.neq_t; omega))))
    (refine Tot.of_eq ?_; (conv => lhs; simp (disch := first | omega | assumption) only [qah]); have := s10_loop A rows (s.length + 2) (by omega) (.int .i64 0) (.str []) (.sl .full 0 []) (by omega) (by omega) h3 rows 0 [] (some 0) (.tup []) rfl (by omega) (by simp) (.nil 3); exact this)
end Go.Vm.Rx
