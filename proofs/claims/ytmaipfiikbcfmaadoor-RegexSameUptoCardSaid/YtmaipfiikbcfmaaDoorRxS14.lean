/- RxS10, RxS11, RxS12, RxS13, RxS14 in one text. -/
import Derived.Test.YtmaipfiikbcfmaaDoorRxS9
import Derived.Test.YtmaipfiikbcfmaaDoorVmSt2
set_option linter.all false
/- What the program's tests of expressions come to. -/
namespace Go.Vm.Rx
open Go Go.Proofs P
set_option linter.unusedVariables false
set_option linter.unusedSimpArgs false
set_option maxRecDepth 10000
set_option maxHeartbeats 1000000
theorem rx_lay (r : Rx) (a b c : D) : layCells true 3 0 [a, b, c] (encRx r) = some [.int .i64 r.op, .str r.nm, encL 3 (r.ks.map encRx)] := by
  rw [encRx_eq]
  simp [layCells, D.cellsT, D.agg?, allCells, D.cell?, splice, encL]
/-! few -/
/-! measure -/
end Go.Vm.Rx

/- Which expressions may be: both texts' answers. -/
namespace Go.Vm.Rx
open Go Go.Proofs P
set_option linter.unusedVariables false
set_option linter.unusedSimpArgs false
set_option maxRecDepth 10000
set_option maxHeartbeats 2000000
end Go.Vm.Rx

/- Check and Size: both texts' answers. -/
namespace Go.Vm.Rx
open Go Go.Proofs P
set_option linter.unusedVariables false
set_option linter.unusedSimpArgs false
set_option maxRecDepth 10000
set_option maxHeartbeats 2000000
theorem s16 (r : Rx) (hr : r.Ok) (A : St) : f16 mL (Run Tryd.prog rxA) (Dcall Tryd.prog rxA) (encRx r) A = some (.ret (.int .i64 r.check), A) := by
  have h1 := fun A => s35 r hr 100001 1000 (by omega) (by omega) (by omega) (by omega) A
  have h2 := fun A => s36 r hr 100 (by omega) (by omega) A
  have h3 := fun A => s37 r hr A
  have hdl := Rx.depth_le r
  unfold f16
  refine Tot.eq ?_
  (repeat' first | (with_reducible first | apply Tot.of (st_mp rfl)) | ((conv => arg 2; arg 1; simp (disch := first | omega | assumption) only [ofA3, ld_sh0, ldc0, rx_box, rx_fold]); (with_reducible first | apply Tot.of (qad rfl))))
  conv => arg 2; arg 1; simp (disch := first | omega | assumption) only [n64_eq, canon_int, rx_canon, r35]
  refine Tot.bn (h1 _) fun x hx => ?_
  obtain ⟨n, d, rfl, hg, hb, _⟩ := hx
  (repeat' first | (with_reducible first | apply Tot.of (st_mp rfl) | apply Tot.of (st_ret rfl) | apply Tot.of (st_leave rfl) | apply Tot.bql (b := true) | apply Tot.bql (b := false) | apply Tot.ift | apply Tot.iff | apply Tot.if_n | apply Tot.bq_n | (apply Tot.bq_d; all_goals intro hsp) | (apply Tot.bq; all_goals intro hsp)) | ((conv => arg 2; arg 1; simp (disch := first | omega | assumption) only [ofA3, un_not, n64_eq, canon_int, ld_sh0, ldc0, ext0, extS, rx_fold, rx_canon, r36, r37, h2, h3]); (with_reducible first | apply Tot.of (qad rfl) | (apply Tot.gtr; all_goals intro hsp))))
  all_goals (((try conv => arg 2; simp (disch := first | omega | assumption) only [qac, shut_int, Kept_append, qab, n64_eq, canon_int, qaa, leave_can, List.take_left']); refine Tot.ret ?_); unfold Rx.check)
  all_goals simp (disch := first | omega | assumption) only [iT, iF, *, if_true, if_false, Bool.false_eq_true]
end Go.Vm.Rx

/- The reference's reader of words: its small functions. -/
namespace Go.Vm.Rx
open Go Go.Proofs P
set_option linter.unusedVariables false
set_option linter.unusedSimpArgs false
set_option maxRecDepth 10000
set_option maxHeartbeats 2000000
/-- the reference's reader -/
def rdC (l : List Word) (i o b a : Int) : List D := [encL 3 (l.map encW), .int .i64 i, .int .i64 o, .int .i64 b, .int .i64 a]
end Go.Vm.Rx

/- Several expressions as one: the reference's Joined. -/
namespace Go.Vm.Rx
open Go Go.Proofs P
set_option linter.unusedVariables false
set_option linter.unusedSimpArgs false
set_option maxRecDepth 10000
set_option maxHeartbeats 2000000
/-- several as one, as the reference has it -/
theorem encRx_mk (op : Int) (nm : Str) (ks : List Rx) : encRx (.mk op nm ks) = .agg [.int .i64 op, .str nm, encL 3 (ks.map encRx)] := encRx_eq _
end Go.Vm.Rx
