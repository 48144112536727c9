/- The law RegexReads, called. -/
import Derived.Test.YtmaipfiikbcfmaaDoorRxArg2
import Derived.Test.YtmaipfiikbcfmaaDoorRxS34
set_option linter.all false
namespace Go.Vm.Rx
open Go Go.Proofs Go.Proofs.YtmaipfiikbcfmaaDoor P
set_option linter.unusedVariables false
set_option maxRecDepth 100000
theorem call4 (w : World) (l0 : List Word) (hl0 : l0.length ≤ 1048576) (hw0 : ∀ r, r ∈ l0 → r.t.length ≤ 1048576) (args : Array Value) (ha : RepL (g0 w) w [.sl .sh 3 (l0.map encW)] args.toList) :
    Calls Tryd.prog 4 args w fun e w' => e = .returned (.bool true) ∧ Go.RowKit.Below w.heap.size w w' := by
  refine call_true Tryd.func4 (by kernel_rfl) (A' := []) ?_ ha
  rw [r4, (show (D.sl .sh 3 (l0.map encW)).canon = encL 3 (l0.map encW) from canon_sl (plainWs l0) _ _)]
  exact law4 l0 (by omega) (fun w hm => by have := hw0 w hm; omega) []
end Go.Vm.Rx
