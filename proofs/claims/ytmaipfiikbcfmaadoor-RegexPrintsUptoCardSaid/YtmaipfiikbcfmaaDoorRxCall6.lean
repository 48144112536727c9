/- The law RegexPrints, called. -/
import Derived.Test.YtmaipfiikbcfmaaDoorRxArg2
import Derived.Test.YtmaipfiikbcfmaaDoorRxS42
set_option linter.all false
namespace Go.Vm.Rx
open Go Go.Proofs Go.Proofs.YtmaipfiikbcfmaaDoor P
set_option linter.unusedVariables false
set_option maxRecDepth 100000
theorem call6 (w : World) (d0 : D) (r0 : Rx) (hd0 : d0.canon = encRx r0) (hr0 : wt r0 ≤ 1048576) (args : Array Value) (ha : RepL (g0 w) w [d0] args.toList) :
    Calls Tryd.prog 6 args w fun e w' => e = .returned (.bool true) ∧ Go.RowKit.Below w.heap.size w w' := by
  refine call_true Tryd.func6 (by kernel_rfl) (A' := []) ?_ ha
  rw [r6, hd0]
  exact law6 r0 (wt_ok _ (by omega)) []
end Go.Vm.Rx
