/- RxS20, RxS21, RxS22 in one text. -/
import Derived.Test.YtmaipfiikbcfmaaDoorRxS19
import Derived.Test.YtmaipfiikbcfmaaDoorRxPure3
set_option linter.all false
/- What the reference reads of words. -/
namespace Go.Vm.Rx
open Go Go.Proofs P
set_option linter.unusedVariables false
set_option linter.unusedSimpArgs false
set_option maxRecDepth 10000
set_option maxHeartbeats 800000
variable {l : List Word} (hl : l.length ≤ 1000000) (hw : ∀ w, w ∈ l → w.t.length ≤ 100000000)
theorem st_new (A : St) (c0 : Slot) (cs cs' : List D) : A ++ [c0, .cells cs] = st (A ++ [c0, .cells cs']) (A.length + 1) cs := by simp [st]
theorem st_new2 (A : St) (c0 : Slot) (cs cs' : List D) : st (A ++ [c0, .cells cs']) (A.length + 1) cs = A ++ [c0, .cells cs] := by simp [st]
theorem st_new3 (A L : St) (c0 : Slot) (cs cs' : List D) : st (A ++ c0 :: .cells cs' :: L) (A.length + 1) cs = A ++ c0 :: .cells cs :: L := by simp [st]
theorem st_takeF (A L : St) (k : Nat) (cs : List D) (h : A.length ≤ k) : (st (A ++ L) k cs).take A.length = A := by
  unfold st
  rw [List.take_set_of_le (by omega)]
  simp
/-- an expression, a place and a fault -/
def readD (x : Rx × Nat × Int) : D := .tup [encRx x.1, .int .i64 (x.2.1 : Nat), .int .i64 x.2.2]
include hl hw
theorem s14 (A : St) : f14 mL (Run Tryd.prog rxA) (Dcall Tryd.prog rxA) (encL 3 (l.map encW)) A = some (.ret (readD (readP l)), A) := by
  obtain ⟨x, hx⟩ := (ends hw (8 * l.length + 4)).alt 0 0 (by omega) (by omega)
  have hfc := (facts hw (8 * l.length + 4)).alt 0 0 x (by omega) hx
  unfold readP
  rw [hx]
  unfold f14
  refine Tot.eq ?_
  (repeat' first | (with_reducible first | apply Tot.of (qaa rfl) | apply Tot.of (st_bind rfl) | apply Tot.of (qa2 rfl)) | ((conv => arg 2; arg 1; simp (disch := first | omega | assumption) only [Nat.zero_add, box_agg2, allCells_nil, allCells_int, cond_true, qa1, List.length_append, List.length_cons, List.length_nil, qaj, app_one, app_nil', app_cons', lay_encL, allCells_encL]); (with_reducible first | apply Tot.of (qaa rfl))))
  rw [st_new A _ _ (rdC l 0 0 0 0)]
  conv => arg 2; arg 1; simp (disch := first | omega | assumption) only [qap, r33]
  have hq := (refSpec hl hw (8 * l.length + 4)).alt (A ++ [.cells [.int .i64 0, .str [], .sl .full 0 []], .cells (rdC l 0 0 0 0)]) (A.length + 1) 0 0 x (by simp) (by omega) (by omega) hx
  refine Tot.bn hq fun z hz => ?_
  have hfl := fun c a i c0 L => s34 (A ++ c0 :: .cells (rdC l 0 0 0 0) :: L) (A.length + 1) l i 0 a c (by simp)
  simp only [st_new3] at hfl
  have hz0 : ((0:Nat):Int) = 0 := rfl
  have htk := fun L k cs h => st_takeF A L k cs h
  rcases x with ⟨a, c⟩ | ⟨r, j⟩
  · obtain ⟨e, i', rfl, he, hi'⟩ := hz
    obtain ⟨hf1, hf2, hf3⟩ : 0 ≤ a ∧ a ≤ l.length ∧ (c = 90 ∨ c = 91) := hfc
    have hc : c ≠ 0 := by omega
    simp only [st_new2]
    (repeat' first | (with_reducible first | apply Tot.of (qaa rfl) | apply Tot.of (qa4 rfl) | apply Tot.of (qak rfl) | apply Tot.of (qav rfl) | apply Tot.of (st_inl rfl) | apply Tot.of (st_gs rfl) | apply Tot.of (qar rfl) | apply Tot.gbl (b := false) | apply Tot.bql (b := true) | apply Tot.bql (b := false) | apply Tot.ift | apply Tot.iff | apply Tot.ifft) | ((conv => arg 2; arg 1; simp (disch := first | omega | assumption) only [qa7, Option.map_some, Option.bind_some, qal, qah, qae, Nat.zero_add, qa1, ofA3, packD, List.length_append, List.length_cons, List.length_nil, sameAd_refl, and_self, qa5, qa8, qba, qaw, qaj, app_one, app_nil', app_cons', ld_sh, ld_sh0, ldc0, ldcS, sto_sh, sto_sh0, stoc0, stocS, Nat.reduceAdd, lay3, hz0, rx_lay, rdl3, rdl4]); (with_reducible first | apply Tot.of (qaa rfl) | apply Tot.of (st_guard rfl) | apply Tot.bql (b := false) | (apply Tot.eql_f; omega) | (apply Tot.neq_f; omega))))
    ((try conv => arg 2; simp (disch := first | omega | assumption) only [qac, qan, qbb, shut_sl, shut_agg, shut_tup, qax, qao, own_full, qaq, qad, qai, qaz, qbd, canon_tup, qas, qam, canon_nil, qab, qaf, List.take_left']); refine Tot.ret ?_)
    rfl
  · cases (show z = _ from hz)
    have g : Good l.length 0 r j := hfc
    have g1 := g.size; have g2 := g.le
    have hch := s16 r (Rx.Nm.ok r g.nm (by omega))
    simp only [st_new2]
    by_cases hj : j < l.length
    · simp only [if_pos hj]
      (repeat' first | (with_reducible first | apply Tot.of (qaa rfl) | apply Tot.of (qau rfl) | apply Tot.of (qa4 rfl) | apply Tot.of (qak rfl) | apply Tot.of (qa0 rfl) | apply Tot.of (qav rfl) | apply Tot.of (st_inl rfl) | apply Tot.of (st_gs rfl) | apply Tot.of (qar rfl) | apply Tot.gbl (b := true) | apply Tot.bql (b := true) | apply Tot.ift | apply Tot.iftt | (apply Tot.lss_t; omega)) | ((conv => arg 2; arg 1; simp (disch := first | omega | assumption) only [qbg, Option.map_some, Option.bind_some, qal, qah, qae, Nat.zero_add, qa1, ofA3, packD, List.length_append, List.length_cons, List.length_nil, sameAd_refl, and_self, qa5, qa8, qba, qaw, qaj, qai, qap, qbe, app_one, app_nil', app_cons', ld_sh, ld_sh0, ldc0, ldcS, sto_sh, sto_sh0, stoc0, stocS, List.length_map, Nat.reduceAdd, lay3, hz0, rx_lay, rdl1, rdl3, rdl4, r34, hfl]); (with_reducible first | apply Tot.of (qaa rfl) | apply Tot.of (st_guard rfl) | apply Tot.bql (b := true) | (apply Tot.eql_t; omega) | (apply Tot.neq_f; omega))))
      ((try conv => arg 2; simp (disch := first | omega | assumption) only [qac, qan, qbb, shut_sl, shut_agg, shut_tup, qax, qao, own_full, qaq, qad, qai, qaz, qbd, canon_tup, qas, qam, canon_nil, qab, qaf, List.take_left']); refine Tot.ret ?_)
      rfl
    · simp only [if_neg hj]
      by_cases hcz : r.check = 0
      · rw [if_pos hcz]
        rw [hcz] at hch
        (repeat' first | (with_reducible first | apply Tot.of (qaa rfl) | apply Tot.of (qa4 rfl) | apply Tot.of (qak rfl) | apply Tot.of (qav rfl) | apply Tot.of (st_inl rfl) | apply Tot.of (qar rfl) | apply Tot.gbl (b := true) | apply Tot.bql (b := true) | apply Tot.bql (b := false) | apply Tot.iff | apply Tot.iftt | (apply Tot.lss_f; omega)) | ((conv => arg 2; arg 1; simp (disch := first | omega | assumption) only [qbg, Option.map_some, Option.bind_some, qal, qah, qae, Nat.zero_add, qa1, ofA3, packD, List.length_append, List.length_cons, List.length_nil, qa5, qa8, qba, qaw, qaj, qbe, app_one, app_nil', app_cons', ld_sh, ld_sh0, ldc0, ldcS, sto_sh, sto_sh0, stoc0, stocS, List.length_map, Nat.reduceAdd, hz0, rx_lay, rx_fold, rdl1, rdl3, r16, hch, qa9]); (with_reducible first | apply Tot.of (qaa rfl) | apply Tot.bql (b := false) | (apply Tot.eql_t; omega) | (apply Tot.neq_t; omega))))
        ((try conv => arg 2; simp (disch := first | omega | assumption) only [qac, qan, shut_tup, qax, qao, qaq, qad, qai, canon_tup, qas, qam, qab, qaf, List.take_left', rx_shut, qa9]); refine Tot.ret ?_)
        rfl
      · rw [if_neg hcz]
        (repeat' first | (with_reducible first | apply Tot.of (qaa rfl) | apply Tot.of (qa4 rfl) | apply Tot.of (qak rfl) | apply Tot.of (qav rfl) | apply Tot.of (st_inl rfl) | apply Tot.of (qar rfl) | apply Tot.gbl (b := true) | apply Tot.bql (b := true) | apply Tot.bql (b := false) | apply Tot.ift | apply Tot.iff | apply Tot.iftt | (apply Tot.lss_f; omega)) | ((conv => arg 2; arg 1; simp (disch := first | omega | assumption) only [qbg, Option.map_some, Option.bind_some, qal, qah, qae, Nat.zero_add, qa1, ofA3, packD, List.length_append, List.length_cons, List.length_nil, qa5, qa8, qba, qaw, qaj, qbe, app_one, app_nil', app_cons', ld_sh, ld_sh0, ldc0, ldcS, sto_sh, sto_sh0, stoc0, stocS, List.length_map, Nat.reduceAdd, lay3, hz0, rx_lay, rx_fold, rdl1, rdl3, r16, hch, qa9]); (with_reducible first | apply Tot.of (qaa rfl) | apply Tot.bql (b := false) | (apply Tot.eql_t; omega) | (apply Tot.neq_t; omega) | (apply Tot.neq_f; omega))))
        ((try conv => arg 2; simp (disch := first | omega | assumption) only [qac, qan, qbb, shut_sl, shut_agg, shut_tup, qax, qao, own_full, qaq, qad, qai, qaz, qbd, canon_tup, qas, qam, canon_nil, qab, qaf, List.take_left']); refine Tot.ret ?_)
        rfl
end Go.Vm.Rx

/- What the reference parses a text as. -/
namespace Go.Vm.Rx
open Go Go.Proofs P
set_option linter.unusedVariables false
set_option linter.unusedSimpArgs false
set_option maxRecDepth 10000
set_option maxHeartbeats 2000000
end Go.Vm.Rx

/- What the reference parses a text as: all of it. -/
namespace Go.Vm.Rx
open Go Go.Proofs P
set_option linter.unusedVariables false
set_option linter.unusedSimpArgs false
set_option maxRecDepth 10000
set_option maxHeartbeats 2000000
end Go.Vm.Rx
