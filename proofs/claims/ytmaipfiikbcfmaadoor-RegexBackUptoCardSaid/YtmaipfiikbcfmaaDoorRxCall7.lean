/- The law RegexBack, called. -/
import Derived.Test.YtmaipfiikbcfmaaDoorRxArg2
import Derived.Test.YtmaipfiikbcfmaaDoorRxS43
set_option linter.all false
namespace Go.Vm.Rx
open Go Go.Proofs Go.Proofs.YtmaipfiikbcfmaaDoor P
set_option linter.unusedVariables false
set_option maxRecDepth 100000
theorem call7 (w : World) (d0 : D) (r0 : Rx) (hd0 : d0.canon = encRx r0) (hr0 : wt r0 ≤ 1048576) (s1 : Str) (hs1 : s1.length ≤ 1048576) (args : Array Value) (ha : RepL (g0 w) w [d0, .str s1] args.toList) :
    Calls Tryd.prog 7 args w fun e w' => e = .returned (.bool true) ∧ Go.RowKit.Below w.heap.size w w' := by
  refine call_true Tryd.func7 (by kernel_rfl) (A' := []) ?_ ha
  rw [r7, hd0, (show (D.str s1).canon = .str s1 from rfl)]
  exact law7 r0 (wt_ok _ (by omega)) s1 (by omega) []
end Go.Vm.Rx
