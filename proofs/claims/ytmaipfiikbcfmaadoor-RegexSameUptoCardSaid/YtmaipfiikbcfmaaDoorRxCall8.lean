/- The law RegexSame, called. -/
import Derived.Test.YtmaipfiikbcfmaaDoorRxArg2
import Derived.Test.YtmaipfiikbcfmaaDoorRxS34
set_option linter.all false
namespace Go.Vm.Rx
open Go Go.Proofs Go.Proofs.YtmaipfiikbcfmaaDoor P
set_option linter.unusedVariables false
set_option maxRecDepth 100000
theorem call8 (w : World) (d0 : D) (r0 : Rx) (hd0 : d0.canon = encRx r0) (hr0 : wt r0 ≤ 1048576) (d1 : D) (r1 : Rx) (hd1 : d1.canon = encRx r1) (hr1 : wt r1 ≤ 1048576) (args : Array Value) (ha : RepL (g0 w) w [d0, d1] args.toList) :
    Calls Tryd.prog 8 args w fun e w' => e = .returned (.bool true) ∧ Go.RowKit.Below w.heap.size w w' := by
  refine call_true Tryd.func8 (by kernel_rfl) (A' := []) ?_ ha
  rw [r8, hd0, hd1]
  exact law8 r0 r1 (wt_ok _ (by omega)) (wt_ok _ (by omega)) []
end Go.Vm.Rx
