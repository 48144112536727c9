/- The law RegexParses, called. -/
import Derived.Test.YtmaipfiikbcfmaaDoorRxArg2
import Derived.Test.YtmaipfiikbcfmaaDoorRxS34
set_option linter.all false
namespace Go.Vm.Rx
open Go Go.Proofs Go.Proofs.YtmaipfiikbcfmaaDoor P
set_option linter.unusedVariables false
set_option maxRecDepth 100000
theorem call3 (w : World) (s0 : Str) (hs0 : s0.length ≤ 1048576) (args : Array Value) (ha : RepL (g0 w) w [.str s0] args.toList) :
    Calls Tryd.prog 3 args w fun e w' => e = .returned (.bool true) ∧ Go.RowKit.Below w.heap.size w w' := by
  refine call_true Tryd.func3 (by kernel_rfl) (A' := []) ?_ ha
  rw [r3, (show (D.str s0).canon = .str s0 from rfl)]
  exact law3 s0 (by omega) []
end Go.Vm.Rx
