/- The law RegexMeans, called. -/
import Derived.Test.YtmaipfiikbcfmaaDoorRxArg2
import Derived.Test.YtmaipfiikbcfmaaDoorRxArg3
import Derived.Test.YtmaipfiikbcfmaaDoorRxS50
set_option linter.all false
namespace Go.Vm.Rx
open Go Go.Proofs Go.Proofs.YtmaipfiikbcfmaaDoor P
set_option linter.unusedVariables false
set_option maxRecDepth 100000
theorem call5 (w : World) (d0 : D) (r0 : Rx) (hd0 : d0.canon = encRx r0) (hr0 : wt r0 ≤ 1048576) (d1 : D) (r1 : Rx) (hd1 : d1.canon = encRx r1) (hr1 : wt r1 ≤ 1048576) (d2 : D) (p2 : List Who) (hd2 : d2.canon = encL 2 (p2.map encWho)) (hl2 : p2.length ≤ 1048576) (hp2 : ∀ w, w ∈ p2 → WhoOk w) (args : Array Value) (ha : RepL (g0 w) w [d0, d1, d2] args.toList) :
    Calls Tryd.prog 5 args w fun e w' => e = .returned (.bool true) ∧ Go.RowKit.Below w.heap.size w w' := by
  refine call_true Tryd.func5 (by kernel_rfl) (A' := []) ?_ ha
  rw [r5, hd0, hd1, hd2]
  exact law5 r0 (wt_ok _ (by omega)) r1 (wt_ok _ (by omega)) p2 (by omega) hp2 []
end Go.Vm.Rx
