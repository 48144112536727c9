/- RxS32, RxS33, RxS34 in one text. -/
import Derived.Test.YtmaipfiikbcfmaaDoorRxS31
set_option linter.all false
/- Which expressions are the same: both texts' answers. -/
namespace Go.Vm.Rx
open Go Go.Proofs P
set_option linter.unusedVariables false
set_option linter.unusedSimpArgs false
set_option linter.unusedSectionVars false
set_option maxRecDepth 10000
set_option maxHeartbeats 2000000
theorem s11_loop (A : St) (a b : Rx) (ha : a.Ok) (hb : b.Ok) (hn : a.ks.length = b.ks.length) (hk : ∀ k, k ∈ a.ks → ∀ k', k' ∈ b.ks → ∀ A, f11 mL (Run Tryd.prog rxA) (Dcall Tryd.prog rxA) (encRx k) (encRx k') A = some (.ret (.bool (k.same k')), A)) :
    ∀ (t t' : List Rx) (i : Nat), a.ks.drop i = t → b.ks.drop i = t' →
    iterK (f11_s0 mL (Run Tryd.prog rxA) (Dcall Tryd.prog rxA) A) (Env.mk (sp [(2, .ref A.length 0), (0, .ref (A.length + 1) 0), (1, .int .i64 (i : Nat))] 40) []) (A ++ [.cells [.int .i64 a.op, .str a.nm, encL 3 (a.ks.map encRx)], .cells [.int .i64 b.op, .str b.nm, encL 3 (b.ks.map encRx)]]) = some (.ret (.bool (Rx.sames t t')), A) := by
  intro t
  have hl := ha.len
  have hs0 : (D.ref A.length 0).shut (A.length + 2) = .ref A.length 0 := shut_ref _ (by omega)
  have hs1 : (D.ref (A.length + 1) 0).shut (A.length + 2) = .ref (A.length + 1) 0 := shut_ref _ (by omega)
  induction t with
  | nil =>
    intro t' i ht ht'
    have h1 := drop_len ht
    have : t' = [] := by rw [← ht']; exact List.drop_eq_nil_of_le (by omega)
    subst this
    refine Tot.eq (Tot.iter ?_)
    conv => arg 2; arg 1; unfold f11_s0
    (repeat' first | (with_reducible first | apply Tot.of (qau rfl) | apply Tot.of (qa2 rfl) | apply Tot.of (qa4 rfl) | apply Tot.of (qak rfl) | apply Tot.of (st_inr rfl) | apply Tot.of (qat rfl) | apply Tot.bql (b := false) | apply Tot.iff) | ((conv => arg 2; arg 1; simp (disch := first | omega | assumption) only [qac, Option.map_some, qa3, qaq, qad, qal, qae, qbc, ofCellsS, Nat.zero_add, qa5, qa8, qba, qay, qab, qaf, qbe, ld_sh0, ldc0, List.take_left', List.length_map]); (with_reducible first | apply Tot.of (qaa rfl) | (apply Tot.lss_f; omega))))
    ((try conv => arg 2; simp (disch := first | omega | assumption) only []); refine Tot.ret ?_)
    unfold Rx.sames; rfl
  | cons k t ih =>
    intro t' i ht ht'
    have h1 := drop_lt ht
    cases t' with
    | nil => have := drop_len ht'; omega
    | cons k' t' =>
      have hx := idx_drop (f := encRx) ht 3 true .i64
      have hx' := idx_drop (f := encRx) ht' 3 true .i64
      have hkk := hk k (drop_mem ht) k' (drop_mem ht')
      have hih := ih t' (i + 1) (drop_succ ht) (drop_succ ht')
      refine Tot.eq (Tot.iter ?_)
      conv => arg 2; arg 1; unfold f11_s0
      unfold Rx.sames
      cases hq : k.same k'
      · rw [hq] at hkk
        (repeat' first | (with_reducible first | apply Tot.of (qau rfl) | apply Tot.of (qa2 rfl) | apply Tot.of (qa4 rfl) | apply Tot.of (qak rfl) | apply Tot.of (qa0 rfl) | apply Tot.of (st_bnguard rfl) | apply Tot.of (qav rfl) | apply Tot.of (st_inr rfl) | apply Tot.of (st_guard rfl) | apply Tot.of (st_bngs rfl) | apply Tot.of (qat rfl) | apply Tot.bql (b := true) | apply Tot.ift) | ((conv => arg 2; arg 1; simp (disch := first | omega | assumption) only [qac, Option.map_some, qa3, qaq, qad, qal, qae, load_peek, qbc, ofCellsS, Nat.zero_add, ofA3, un_not, Bool.not_false, qa5, qa8, qba, qaw, qay, qab, qaf, qbe, ld_sh, ld_sh0, ldc0, ldcS, List.take_left', List.length_map, hx, hx', rx_cell, rx_fold, qa9, r11, hkk]); (with_reducible first | apply Tot.of (qaa rfl) | (apply Tot.lss_t; omega))))
        ((try conv => arg 2; simp (disch := first | omega | assumption) only []); refine Tot.ret ?_)
        rfl
      · rw [hq] at hkk
        (repeat' first | (with_reducible first | apply Tot.of (qaa rfl) | apply Tot.of (qau rfl) | apply Tot.of (qa4 rfl) | apply Tot.of (qak rfl) | apply Tot.of (qa0 rfl) | apply Tot.of (st_bnguard rfl) | apply Tot.of (qav rfl) | apply Tot.of (st_inl rfl) | apply Tot.of (st_guard rfl) | apply Tot.of (st_bngs rfl) | apply Tot.of (st_bngk rfl) | apply Tot.bql (b := true) | apply Tot.bql (b := false) | apply Tot.ift | apply Tot.iff) | ((conv => arg 2; arg 1; simp (disch := first | omega | assumption) only [binO_add, qbf, qa6, qae, load_peek, qbc, ofCellsS, Nat.zero_add, ofA3, un_not, Bool.not_true, qa5, qa8, qba, qaw, qaj, qbe, ld_sh, ld_sh0, ldc0, ldcS, List.length_map, hx, hx', rx_cell, rx_fold, qa9, r11, hkk]); (with_reducible first | apply Tot.of (qaa rfl) | apply Tot.of (st_guard rfl) | (apply Tot.lss_t; omega))))
        conv => arg 2; simp (disch := first | omega | assumption) only [qan, List.map_nil, Nat.zero_add, List.length_append, List.length_cons, List.length_nil, qa5, qa8, qba, Nat.reduceAdd, take_n2, hs0, hs1]
        refine Tot.of_eq ?_
        simpa using hih
theorem s11 : ∀ (a : Rx) (ha : a.Ok) (b : Rx) (hb : b.Ok) (A : St), f11 mL (Run Tryd.prog rxA) (Dcall Tryd.prog rxA) (encRx a) (encRx b) A = some (.ret (.bool (a.same b)), A) := by
  refine Rx.ind ?_
  intro a ih ha b hb A
  have hla := ha.len; have hlb := hb.len
  have hlm : ∀ r : Rx, ((r.ks.map encRx).length : Int) = (r.ks.length : Int) := fun r => by simp
  unfold f11
  rw [Rx.same_eq]
  refine Tot.eq ?_
  by_cases h1 : a.op = b.op
  · by_cases h2 : a.nm = b.nm
    · by_cases h3 : a.ks.length = b.ks.length
      · have := s11_loop A a b ha hb h3 (fun k hk k' hk' A => ih k hk (ha.kid hk) k' (hb.kid hk') A) a.ks b.ks 0 rfl rfl
        (repeat' first | (with_reducible first | apply Tot.of (qa4 rfl) | apply Tot.of (qak rfl) | apply Tot.of (st_it rfl) | apply Tot.gbl (b := false) | apply Tot.bql (b := false) | apply Tot.iff | apply Tot.ifff | (apply Tot.neq_t; omega) | (apply Tot.sneq_t; first | assumption | with_reducible rfl)) | ((conv => arg 2; arg 1; simp (disch := first | omega | assumption) only [qa7, qae, qbc, ofCellsS, Nat.zero_add, Nat.add_zero, List.length_append, List.length_cons, List.length_nil, qbe, app_one, app_nil', app_cons', ld_sh, ld_sh0, ldc0, ldcS, List.length_map, rx_box, h1, h2, h3]); (with_reducible first | apply Tot.of (qaa rfl) | apply Tot.gbl (b := false) | apply Tot.bql (b := false))))
        (refine Tot.of_eq ?_; (conv => lhs; simp (disch := first | omega | assumption) only [qaj]); rw [decide_eq_true h1, decide_eq_true h2]; simpa [h1, h2, h3] using this)
      · rw [Rx.sames_len h3]
        (repeat' first | (with_reducible first | apply Tot.of (qa4 rfl) | apply Tot.of (qak rfl) | apply Tot.of (qar rfl) | apply Tot.gbl (b := false) | apply Tot.bql (b := false) | apply Tot.ift | apply Tot.ifff | (apply Tot.neq_t; omega) | (apply Tot.neq_f; omega) | (apply Tot.sneq_t; first | assumption | with_reducible rfl)) | ((conv => arg 2; arg 1; simp (disch := first | omega | assumption) only [qa7, qae, qbc, ofCellsS, Nat.zero_add, Nat.add_zero, List.length_append, List.length_cons, List.length_nil, qbe, app_one, app_nil', app_cons', ld_sh, ld_sh0, ldc0, ldcS, List.length_map, rx_box, h1, h2]); (with_reducible first | apply Tot.of (qaa rfl) | apply Tot.gbl (b := false) | apply Tot.bql (b := true) | apply Tot.bql (b := false))))
        ((try conv => arg 2; simp (disch := first | omega | assumption) only [qac, qa3, qaq, qad, qay, qab, qaf, List.take_left']); refine Tot.ret ?_)
        simp
    · rw [decide_eq_false h2]
      (repeat' first | (with_reducible first | apply Tot.of (qaa rfl) | apply Tot.of (qa4 rfl) | apply Tot.of (qak rfl) | apply Tot.of (qar rfl) | apply Tot.gbl (b := false) | apply Tot.bql (b := false) | apply Tot.ift | apply Tot.iftf | apply Tot.ifff | (apply Tot.neq_t; omega) | (apply Tot.sneq_f; first | assumption | decide | exact List.cons_ne_nil _ _)) | ((conv => arg 2; arg 1; simp (disch := first | omega | assumption) only [qbg, qa7, qae, qbc, ofCellsS, Nat.zero_add, Nat.add_zero, List.length_append, List.length_cons, List.length_nil, app_one, app_nil', app_cons', ld_sh, ld_sh0, ldc0, ldcS, rx_box, h1]); (with_reducible first | apply Tot.of (qaa rfl) | apply Tot.gbl (b := true) | apply Tot.bql (b := true))))
      ((try conv => arg 2; simp (disch := first | omega | assumption) only [qac, qa3, qaq, qad, qay, qab, qaf, List.take_left']); refine Tot.ret ?_)
      simp
  · rw [decide_eq_false h1]
    (repeat' first | (with_reducible first | apply Tot.of (qaa rfl) | apply Tot.of (qa4 rfl) | apply Tot.of (qak rfl) | apply Tot.of (qar rfl) | apply Tot.gbl (b := true) | apply Tot.bql (b := true) | apply Tot.ift | apply Tot.iftf | (apply Tot.neq_f; omega)) | ((conv => arg 2; arg 1; simp (disch := first | omega | assumption) only [qbg, qae, qbc, Nat.zero_add, Nat.add_zero, List.length_append, List.length_cons, List.length_nil, app_one, app_nil', app_cons', ld_sh, ld_sh0, ldc0, ldcS, rx_box]); (with_reducible first | apply Tot.of (qaa rfl) | apply Tot.gbl (b := true) | apply Tot.bql (b := true))))
    ((try conv => arg 2; simp (disch := first | omega | assumption) only [qac, qa3, qaq, qad, qay, qab, qaf, List.take_left']); refine Tot.ret ?_)
    simp
end Go.Vm.Rx

/- Which expressions are the same: the program's answer. -/
namespace Go.Vm.Rx
open Go Go.Proofs P
set_option linter.unusedVariables false
set_option linter.unusedSimpArgs false
set_option linter.unusedSectionVars false
set_option maxRecDepth 10000
set_option maxHeartbeats 2000000
end Go.Vm.Rx

/- Laws of path expressions: what texts and words are read as, which expressions are the same. -/
namespace Go.Vm.Rx
open Go Go.Proofs P
set_option linter.unusedVariables false
set_option linter.unusedSimpArgs false
set_option linter.unusedSectionVars false
set_option maxRecDepth 10000
set_option maxHeartbeats 4000000
theorem no_ok : Rx.no.Ok := ⟨by simp, by simp, trivial⟩
theorem readP_ok {l : List Word} (hl : l.length ≤ 1000000) (hw : ∀ w, w ∈ l → w.t.length ≤ 100000000) : (readP l).1.Ok := by
  unfold readP
  obtain ⟨x, hx⟩ := (ends hw (8 * l.length + 4)).alt 0 0 (by omega) (by omega)
  have hfc := (facts hw (8 * l.length + 4)).alt 0 0 x (by omega) hx
  rw [hx]
  rcases x with ⟨a, c⟩ | ⟨r, j⟩
  · exact no_ok
  · have g : Good l.length 0 r j := hfc
    have g1 := g.size; have g2 := g.le
    dsimp only
    split
    · exact no_ok
    · split
      · exact Rx.Nm.ok r g.nm (by omega)
      · exact no_ok
theorem alive_is (A : St) : Run Tryd.prog rxA 12 [] A = some (.ret (.bool true), A) := by
  rw [Run_ext _ _ (by decide) rfl]; rfl
theorem law4 (l : List Word) (hl : l.length ≤ 2000000) (hw : ∀ w, w ∈ l → w.t.length ≤ 100000000) (A : St) : f4 mL (Run Tryd.prog rxA) (Dcall Tryd.prog rxA) (encL 3 (l.map encW)) A = some (.ret (.bool true), A) := by
  have hl' : (l.take 2000).length ≤ 1000000 := by simp only [List.length_take]; omega
  have hw' : ∀ w, w ∈ l.take 2000 → w.t.length ≤ 100000000 := fun w hm => hw w (List.mem_of_mem_take hm)
  have h1 := fun A => s13 (l.take 2000) hl' hw' A
  have h2 := fun A => s14 hl' hw' A
  have hok := readP_ok hl' hw'
  have h3 := fun A => s11 _ hok _ hok A
  rw [Rx.same_refl] at h3
  have hcw := ws_canon (l.take 2000) 3
  have hcl := ws_canon l 3
  have hlm : ((l.map encW).length : Int) = (l.length : Int) := by simp
  unfold f4
  refine Tot.eq ?_
  by_cases h : 2000 < l.length
  · have hsl : sliceSlO 3 (encL 3 (l.map encW)) none (some (.int .i64 2000)) none = some (.sl .sh 3 ((l.take 2000).map encW)) := by
      cases l with
      | nil => simp at h
      | cons w l =>
        have e : esOk .sh 3 3 ((w :: l).map encW) = true := rfl
        simp only [List.length_cons] at h
        simp [sliceSlO, encL, optInt, D.int?, sliceSl, sliceOwn, esOk, List.map_take]
        omega
    have hcs : (D.sl .sh 3 ((l.take 2000).map encW)).canon = encL 3 ((l.take 2000).map encW) := canon_sl (plainWs _) _ _
    generalize readP (l.take 2000) = q at h1 h2 h3
    obtain ⟨r, a, f⟩ := q
    unfold readD at h1 h2
    dsimp only at h1 h2 h3
    (repeat' first | (with_reducible first | apply Tot.of (qaa rfl) | apply Tot.of (qau rfl) | apply Tot.of (qa4 rfl) | apply Tot.of (qak rfl) | apply Tot.of (qav rfl) | apply Tot.of (st_inl rfl) | apply Tot.of (qar rfl) | apply Tot.gbl (b := true) | apply Tot.bql (b := true) | apply Tot.ift | apply Tot.iftt | (apply Tot.eql_t; omega)) | ((conv => arg 2; arg 1; simp (disch := first | omega | assumption) only [qbg, Option.map_some, qal, Nat.zero_add, qa1, ofA3, List.length_append, List.length_cons, List.length_nil, qa5, qaw, qaj, qbe, app_one, app_nil', app_cons', ld_sh, ld_sh0, ldc0, ldcS, sto_sh, sto_sh0, stoc0, stocS, List.length_map, ext0, extS, hsl, hcs, r13, h1, r14, h2, r11, qa9, h3, rx_lay, rx_fold, alive_is]); (with_reducible first | apply Tot.of (qaa rfl) | apply Tot.gbl (b := true) | apply Tot.bql (b := true) | (apply Tot.gtr_t; omega))))
    ((try conv => arg 2; simp (disch := first | omega | assumption) only [qac, qa3, qaq, qad, qay, qab, qaf, List.take_left']); refine Tot.ret ?_)
    rfl
  · have ht : l.take 2000 = l := List.take_of_length_le (by omega)
    rw [ht] at h1 h2 h3
    generalize readP l = q at h1 h2 h3
    obtain ⟨r, a, f⟩ := q
    unfold readD at h1 h2
    dsimp only at h1 h2 h3
    (repeat' first | (with_reducible first | apply Tot.of (qaa rfl) | apply Tot.of (qa4 rfl) | apply Tot.of (qak rfl) | apply Tot.of (qav rfl) | apply Tot.of (st_inl rfl) | apply Tot.of (qar rfl) | apply Tot.gbl (b := true) | apply Tot.bql (b := true) | apply Tot.bql (b := false) | apply Tot.iff | apply Tot.iftt | (apply Tot.eql_t; omega)) | ((conv => arg 2; arg 1; simp (disch := first | omega | assumption) only [qbg, Option.map_some, qal, Nat.zero_add, qa1, ofA3, List.length_append, List.length_cons, List.length_nil, qa5, qaw, qaj, qbe, app_one, app_nil', app_cons', ld_sh, ld_sh0, ldc0, ldcS, sto_sh, sto_sh0, stoc0, stocS, List.length_map, ext0, extS, hcl, r13, h1, r14, h2, r11, qa9, h3, rx_lay, rx_fold, alive_is]); (with_reducible first | apply Tot.of (qaa rfl) | apply Tot.gbl (b := true) | apply Tot.bql (b := true) | (apply Tot.gtr_f; omega))))
    ((try conv => arg 2; simp (disch := first | omega | assumption) only [qac, qa3, qaq, qad, qay, qab, qaf, List.take_left']); refine Tot.ret ?_)
    rfl
end Go.Vm.Rx
