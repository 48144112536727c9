/- RxS23, RxS24 in one text. -/
import Derived.Test.YtikjlgcbcljehaaGreatDoorRxS22
import Derived.Test.YtikjlgcbcljehaaGreatDoorVmTab
set_option linter.all false
/- The program's reader of words: its small functions. -/
namespace Go.Vm.Rx
open Go Go.Proofs P
set_option linter.unusedVariables false
set_option linter.unusedSimpArgs false
set_option maxRecDepth 10000
set_option maxHeartbeats 1000000
/-- a place among words, and how many parentheses are open -/
def psC (l : List Word) (i o : Int) : List D := [encL 3 (l.map encW), .int .i64 i, .int .i64 o]
section
variable (l : List Word) (i o x : Int)
end
/-- which of some words it is; -1: none -/
def idxStr (w : Str) : List Str → Int → Int
  | [], _ => -1
  | x :: r, i => if w = x then i else idxStr w r (i + 1)
theorem idxStr_ge (w : Str) : ∀ (ws : List Str) (i : Int), 0 ≤ i → (0 ≤ idxStr w ws i ↔ w ∈ ws)
  | [], i, h => by simp [idxStr]
  | x :: r, i, h => by
    unfold idxStr
    split
    · rename_i e; simp [e, h]
    · rename_i e
      rw [idxStr_ge w r (i + 1) (by omega)]
      simp [e]
end Go.Vm.Rx

/- Several expressions as one: the program's join. -/
namespace Go.Vm.Rx
open Go Go.Proofs P
set_option linter.unusedVariables false
set_option linter.unusedSimpArgs false
set_option maxRecDepth 10000
set_option maxHeartbeats 2000000
/-- taken apart: one, or several -/
def joinK (op : Int) (ks : List Rx) : Rx := match ks with | [r] => r | ks => .mk op [] ks
end Go.Vm.Rx
