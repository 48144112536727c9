/- What both texts print; law 6. -/
import Derived.Test.YtmaipfiikbcfmaaDoorRxS41
set_option linter.all false
namespace Go.Vm.Rx
open Go Go.Proofs P
set_option linter.unusedVariables false
set_option linter.unusedSimpArgs false
set_option linter.unusedSectionVars false
set_option maxRecDepth 10000
set_option maxHeartbeats 4000000
/-- an expression's text, or why there is none -/
def printD (r : Rx) : D := if r.check = 0 then .tup [.str (sayW r.body), .int .i64 0] else .tup [.str [], .int .i64 r.check]
theorem binds_1 (r : Rx) : ¬ r.binds < 1 := by unfold Rx.binds; split <;> first | omega | (split <;> omega)
theorem body_rx {r : Rx} (h : r.right = true) (hs : r.size ≤ 1000) : r.body.length ≤ 1000000 ∧ ∀ w, w ∈ r.body → RxWord w := by
  have := Rx.body_len r
  exact ⟨by omega, Rx.body_words r h⟩
theorem s20 (r : Rx) (hr : r.Ok) (A : St) : f20 mL (Run Tryd.prog rxA) (Dcall Tryd.prog rxA) (encRx r) A = some (.ret (printD r), A) := by
  have hck := fun A => s24 r hr A
  unfold f20 printD
  refine Tot.eq ?_
  by_cases h : r.check = 0
  · rw [if_pos h]
    rw [h] at hck
    obtain ⟨h1, h2, h3⟩ := check_0 h
    obtain ⟨g1, g2⟩ := body_rx h3 h1
    obtain ⟨o, ho, hcall⟩ := (s39 r hr h1 h3 1).get (A ++ [.cells [.int .i64 r.op, .str r.nm, encL 3 (r.ks.map encRx)]]) (c' := 1) rfl
    rw [say_bare (binds_1 r)] at ho hcall
    have hcn := acc_canon (c := (A ++ [Slot.cells [.int .i64 r.op, .str r.nm, encL 3 (r.ks.map encRx)]]).length) ho (plainStrs r.body)
    have hsay := fun A => s38 A r.body g1 g2
    have htk : (accA o (A ++ [.cells [.int .i64 r.op, .str r.nm, encL 3 (r.ks.map encRx)]]) (r.body.map .str)).take A.length = A := accL_take
    have hkp : Kept A (accA o (A ++ [.cells [.int .i64 r.op, .str r.nm, encL 3 (r.ks.map encRx)]]) (r.body.map .str)) ↔ True := accL_Kept
    generalize accA o (A ++ [.cells [.int .i64 r.op, .str r.nm, encL 3 (r.ks.map encRx)]]) (r.body.map .str) = S0 at *
    generalize accD o (A ++ [Slot.cells [.int .i64 r.op, .str r.nm, encL 3 (r.ks.map encRx)]]).length 1 (r.body.map .str) = d0 at *
    (repeat' first | (with_reducible first | apply Tot.of (qay rfl) | apply Tot.of (qat rfl) | apply Tot.of (qaj rfl) | apply Tot.bql (b := false) | apply Tot.iff) | ((conv => arg 2; arg 1; simp (disch := first | omega | assumption) only [ofA3, qah, qaf, ld_sh0, ldc0, ext0, extS, rx_box, rx_fold, qa8, r24, hck, r39, hcall, r38, hcn, hsay]); (with_reducible first | apply Tot.of (qaa rfl) | (apply Tot.neq_t; omega))))
    ((try conv => arg 2; simp (disch := first | omega | assumption) only [qad, qam, shut_strD, shut_tup, qbc, qa1, qac, qaf, qaw, canon_tup, qa5, qax, qab, qae, htk, hkp]); refine Tot.ret ?_)
    rfl
  · rw [if_neg h]
    (repeat' first | (with_reducible first | apply Tot.of (qay rfl) | apply Tot.of (qat rfl) | apply Tot.of (qaj rfl) | apply Tot.bql (b := true) | apply Tot.ift) | ((conv => arg 2; arg 1; simp (disch := first | omega | assumption) only [ofA3, qah, ld_sh0, ldc0, rx_box, rx_fold, qa8, r24, hck]); (with_reducible first | apply Tot.of (qaa rfl) | (apply Tot.neq_f; omega))))
    ((try conv => arg 2; simp (disch := first | omega | assumption) only [qad, qam, shut_strD, shut_tup, qbc, qa1, qar, qac, qaf, qaw, canon_tup, qa5, qax, qab, qae, List.take_left']); refine Tot.ret ?_)
    rfl
theorem s21 (r : Rx) (hr : r.Ok) (A : St) : f21 mL (Run Tryd.prog rxA) (Dcall Tryd.prog rxA) (encRx r) A = some (.ret (printD r), A) := by
  have hck := fun A => s16 r hr A
  unfold f21 printD
  refine Tot.eq ?_
  by_cases h : r.check = 0
  · rw [if_pos h]
    rw [h] at hck
    obtain ⟨h1, h2, h3⟩ := check_0 h
    obtain ⟨g1, g2⟩ := body_rx h3 h1
    obtain ⟨o, ho, hcall⟩ := (s41 r hr h1 h3).1.get (A ++ [.cells [.int .i64 r.op, .str r.nm, encL 3 (r.ks.map encRx)]])
    rw [say_bare (binds_1 r)] at ho hcall
    have hcn := acc_canon (c := (A ++ [Slot.cells [.int .i64 r.op, .str r.nm, encL 3 (r.ks.map encRx)]]).length) ho (plainStrs r.body)
    have hsay := fun A => s40 A r.body g1 g2
    have htk : (accA o (A ++ [.cells [.int .i64 r.op, .str r.nm, encL 3 (r.ks.map encRx)]]) (r.body.map .str)).take A.length = A := accL_take
    have hkp : Kept A (accA o (A ++ [.cells [.int .i64 r.op, .str r.nm, encL 3 (r.ks.map encRx)]]) (r.body.map .str)) ↔ True := accL_Kept
    generalize accA o (A ++ [.cells [.int .i64 r.op, .str r.nm, encL 3 (r.ks.map encRx)]]) (r.body.map .str) = S0 at *
    generalize accD o (A ++ [Slot.cells [.int .i64 r.op, .str r.nm, encL 3 (r.ks.map encRx)]]).length 1 (r.body.map .str) = d0 at *
    (repeat' first | (with_reducible first | apply Tot.of (qay rfl) | apply Tot.of (qat rfl) | apply Tot.of (qaj rfl) | apply Tot.bql (b := false) | apply Tot.iff) | ((conv => arg 2; arg 1; simp (disch := first | omega | assumption) only [ofA3, qah, qaf, ld_sh0, ldc0, ext0, extS, rx_box, rx_fold, qa8, r16, hck, r41, hcall, r40, hcn, hsay]); (with_reducible first | apply Tot.of (qaa rfl) | (apply Tot.neq_t; omega))))
    ((try conv => arg 2; simp (disch := first | omega | assumption) only [qad, qam, shut_strD, shut_tup, qbc, qa1, qac, qah, qaf, qaw, canon_tup, qa5, qax, qab, qae, htk, hkp]); refine Tot.ret ?_)
    rfl
  · rw [if_neg h]
    (repeat' first | (with_reducible first | apply Tot.of (qay rfl) | apply Tot.of (qat rfl) | apply Tot.of (qaj rfl) | apply Tot.bql (b := true) | apply Tot.ift) | ((conv => arg 2; arg 1; simp (disch := first | omega | assumption) only [ofA3, qah, ld_sh0, ldc0, rx_box, rx_fold, qa8, r16, hck]); (with_reducible first | apply Tot.of (qaa rfl) | (apply Tot.neq_f; omega))))
    ((try conv => arg 2; simp (disch := first | omega | assumption) only [qad, qam, shut_strD, shut_tup, qbc, qa1, qar, qac, qaf, qaw, canon_tup, qa5, qax, qab, qae, List.take_left']); refine Tot.ret ?_)
    rfl
theorem alive_so (A : St) : Run Tryd.prog rxA 12 [] A = some (.ret (.bool true), A) := by
  rw [Run_ext _ _ (by decide) rfl]; rfl
theorem law6 (r : Rx) (hr : r.Ok) (A : St) : f6 mL (Run Tryd.prog rxA) (Dcall Tryd.prog rxA) (encRx r) A = some (.ret (.bool true), A) := by
  have h1 := fun A => s20 r hr A
  have h2 := fun A => s21 r hr A
  have h3 := fun A => s22 r hr A
  have h4 := fun A => s23 r hr A
  have h5 := fun A => s24 r hr A
  have h6 := fun A => s16 r hr A
  have hp : ∃ s c, printD r = .tup [.str s, .int .i64 c] := by unfold printD; split <;> exact ⟨_, _, rfl⟩
  have hz : ∃ a b, sizeD r = .tup [.int .i64 a, .int .i64 b] := by unfold sizeD; split <;> exact ⟨_, _, rfl⟩
  obtain ⟨s, c, hp⟩ := hp
  obtain ⟨a, b, hz⟩ := hz
  rw [hp] at h1 h2
  rw [hz] at h3 h4
  unfold f6
  refine Tot.eq ?_
  (repeat' first | (with_reducible first | apply Tot.of (qaa rfl) | apply Tot.of (qay rfl) | apply Tot.of (qai rfl) | apply Tot.of (qat rfl) | apply Tot.of (st_gs rfl) | apply Tot.of (qaj rfl) | apply Tot.gbl (b := true) | apply Tot.bql (b := true) | apply Tot.iftt | (apply Tot.eql_t; omega) | (apply Tot.seql_t; first | assumption | with_reducible rfl)) | ((conv => arg 2; arg 1; simp (disch := first | omega | assumption) only [qas, ofA3, sameAd_refl, and_self, beqt, ld_sh0, ldc0, ext0, extS, rx_box, rx_fold, qa8, r20, h1, r21, h2, r22, h3, r23, h4, r24, h5, r16, h6, alive_so]); (with_reducible first | apply Tot.of (qaa rfl) | apply Tot.of (st_guard rfl) | apply Tot.gbl (b := true) | apply Tot.bql (b := true))))
  ((try conv => arg 2; simp (disch := first | omega | assumption) only [qas, qad, qao, qar, qac, qal, qab, qae, List.take_left']); refine Tot.ret ?_)
  rfl
end Go.Vm.Rx
