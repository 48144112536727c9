/- What both texts print; law 6. -/
import Derived.Test.YtmaipfiikbcfmaaDoorRxS41
set_option linter.all false
namespace Go.Vm.Rx
open Go Go.Proofs P
set_option linter.unusedVariables false
set_option linter.unusedSimpArgs false
set_option linter.unusedSectionVars false
set_option maxRecDepth 10000
set_option maxHeartbeats 4000000
/-- an expression's text, or why there is none -/
def printD (r : Rx) : D := if r.check = 0 then .tup [.str (sayW r.body), .int .i64 0] else .tup [.str [], .int .i64 r.check]
theorem binds_1 (r : Rx) : ¬ r.binds < 1 := by unfold Rx.binds; split <;> first | omega | (split <;> omega)
theorem body_rx {r : Rx} (h : r.right = true) (hs : r.size ≤ 1000) : r.body.length ≤ 1000000 ∧ ∀ w, w ∈ r.body → RxWord w := by
  have := Rx.body_len r
  exact ⟨by omega, Rx.body_words r h⟩
theorem s20 (r : Rx) (hr : r.Ok) (A : St) : f20 mL (Run Tryd.prog rxA) (Dcall Tryd.prog rxA) (encRx r) A = some (.ret (printD r), A) := by
  have hck := fun A => s24 r hr A
  unfold f20 printD
  refine Tot.eq ?_
  by_cases h : r.check = 0
  · rw [if_pos h]
    rw [h] at hck
    obtain ⟨h1, h2, h3⟩ := check_0 h
    obtain ⟨g1, g2⟩ := body_rx h3 h1
    obtain ⟨o, ho, hcall⟩ := (s39 r hr h1 h3 1).get (A ++ [.cells [.int .i64 r.op, .str r.nm, encL 3 (r.ks.map encRx)]]) (c' := 1) rfl
    rw [say_bare (binds_1 r)] at ho hcall
    have hcn := acc_canon (c := (A ++ [Slot.cells [.int .i64 r.op, .str r.nm, encL 3 (r.ks.map encRx)]]).length) ho (plainStrs r.body)
    have hsay := fun A => s38 A r.body g1 g2
    have htk : (accA o (A ++ [.cells [.int .i64 r.op, .str r.nm, encL 3 (r.ks.map encRx)]]) (r.body.map .str)).take A.length = A := accL_take
    have hkp : Kept A (accA o (A ++ [.cells [.int .i64 r.op, .str r.nm, encL 3 (r.ks.map encRx)]]) (r.body.map .str)) ↔ True := accL_Kept
    generalize accA o (A ++ [.cells [.int .i64 r.op, .str r.nm, encL 3 (r.ks.map encRx)]]) (r.body.map .str) = S0 at *
    generalize accD o (A ++ [Slot.cells [.int .i64 r.op, .str r.nm, encL 3 (r.ks.map encRx)]]).length 1 (r.body.map .str) = d0 at *
    (repeat' first | (with_reducible first | apply Tot.of (qa3 rfl) | apply Tot.of (qas rfl) | apply Tot.of (qak rfl) | apply Tot.bql (b := false) | apply Tot.iff) | ((conv => arg 2; arg 1; simp (disch := first | omega | assumption) only [ofA3, qai, qag, qa9, ldc0, ext0, extS, rx_box, qbd, qa7, r24, hck, r39, hcall, r38, hcn, hsay]); (with_reducible first | apply Tot.of (qaa rfl) | (apply Tot.neq_t; omega))))
    ((try conv => arg 2; simp (disch := first | omega | assumption) only [qac, qao, shut_strD, shut_tup, qay, qar, qad, qag, qam, canon_tup, qat, qan, qab, qae, htk, hkp]); refine Tot.ret ?_)
    rfl
  · rw [if_neg h]
    (repeat' first | (with_reducible first | apply Tot.of (qa3 rfl) | apply Tot.of (qas rfl) | apply Tot.of (qak rfl) | apply Tot.bql (b := true) | apply Tot.ift) | ((conv => arg 2; arg 1; simp (disch := first | omega | assumption) only [ofA3, qai, qa9, ldc0, rx_box, qbd, qa7, r24, hck]); (with_reducible first | apply Tot.of (qaa rfl) | (apply Tot.neq_f; omega))))
    ((try conv => arg 2; simp (disch := first | omega | assumption) only [qac, qao, shut_strD, shut_tup, qay, qar, qaj, qad, qag, qam, canon_tup, qat, qan, qab, qae, List.take_left']); refine Tot.ret ?_)
    rfl
theorem size_0 {r : Rx} (h : r.check = 0) : sizeD r = .tup [.int .i64 r.size, .int .i64 r.depth] := by
  obtain ⟨h1, h2, _⟩ := check_0 h
  unfold sizeD
  rw [if_pos ⟨by omega, by omega⟩]
theorem print_0 {r : Rx} (h : r.check = 0) : printD r = .tup [.str (sayW r.body), .int .i64 0] := by unfold printD; rw [if_pos h]
theorem print_n {r : Rx} (h : ¬ r.check = 0) : printD r = .tup [.str [], .int .i64 r.check] := by unfold printD; rw [if_neg h]
end Go.Vm.Rx
