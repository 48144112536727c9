/- The law RegexMatches, called. -/
import Derived.Test.YtikjlgcbcljehaaGreatDoorRxArg2
import Derived.Test.YtikjlgcbcljehaaGreatDoorRxArg3
import Derived.Test.YtikjlgcbcljehaaGreatDoorRxS58
set_option linter.all false
namespace Go.Vm.Rx
open Go Go.Proofs Go.Proofs.YtikjlgcbcljehaaGreatDoor P
set_option linter.unusedVariables false
set_option maxRecDepth 100000
theorem call3 (w : World) (d0 : D) (r0 : Rx) (hd0 : d0.canon = encRx r0) (hr0 : wt r0 ≤ 1048576) (d1 : D) (p1 : List Who) (hd1 : d1.canon = encL 2 (p1.map encWho)) (hl1 : p1.length ≤ 1048576) (hp1 : ∀ w, w ∈ p1 → WhoOk w) (args : Array Value) (ha : RepL (g0 w) w [d0, d1] args.toList) :
    Calls Tryz.prog 3 args w fun e w' => e = .returned (.bool true) ∧ Go.RowKit.Below w.heap.size w w' := by
  refine call_true Tryz.func3 (by kernel_rfl) (A' := []) ?_ ha
  rw [r3, hd0, hd1]
  exact lawM r0 (wt_ok _ (by omega)) p1 (by omega) hp1 []
end Go.Vm.Rx
