/- RxS35, RxS36, RxS37 in one text. -/
import Derived.Test.YtikjlgcbcljehaaGreatDoorRxS31
import Derived.Test.YtikjlgcbcljehaaGreatDoorRxW3
set_option linter.all false
/- One word, two words: what both texts say of them. -/
namespace Go.Vm.Rx
open Go Go.Proofs P
set_option linter.unusedVariables false
set_option linter.unusedSimpArgs false
set_option linter.unusedSectionVars false
set_option maxRecDepth 10000
set_option maxHeartbeats 2000000
end Go.Vm.Rx

/- Is a text just some words? What the program says. -/
namespace Go.Vm.Rx
open Go Go.Proofs P
set_option linter.unusedVariables false
set_option linter.unusedSimpArgs false
set_option linter.unusedSectionVars false
set_option maxRecDepth 10000
set_option maxHeartbeats 2000000
theorem plainStrs (ws : List Str) : PlainL (ws.map .str) := PlainL.map (fun s => ⟨fun _ => rfl, rfl⟩) ws
theorem strs_shut (ws : List Str) (n m : Nat) : (encL n (ws.map .str)).shut m = encL n (ws.map .str) := (encL_plain (plainStrs ws) n).shut m
theorem strs_canon (ws : List Str) (n : Nat) : (encL n (ws.map .str)).canon = encL n (ws.map .str) := (encL_plain (plainStrs ws) n).canon
end Go.Vm.Rx

/- Words said as a text: both texts. -/
namespace Go.Vm.Rx
open Go Go.Proofs P
set_option linter.unusedVariables false
set_option linter.unusedSimpArgs false
set_option linter.unusedSectionVars false
set_option maxRecDepth 10000
set_option maxHeartbeats 2000000
/-! a row of bytes that grows -/
theorem AccOk.nextS {b : Option Nat} {s : Str} (h : AccOk b 1 (strBytes s)) (w : Str) : AccOk (accNext b 1 (strBytes w)) 1 (strBytes (s ++ w)) := by rw [strBytes_append]; exact h.next _
end Go.Vm.Rx
