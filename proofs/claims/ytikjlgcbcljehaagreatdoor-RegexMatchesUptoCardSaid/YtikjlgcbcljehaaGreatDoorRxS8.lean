/- RxS5, RxS6, RxS7, RxS8 in one text. -/
import Derived.Test.YtikjlgcbcljehaaGreatDoorRxS4
set_option linter.all false
/- What the reference's reader of texts comes to. -/
namespace Go.Vm.Rx
open Go.Proofs P
set_option linter.unusedVariables false
set_option linter.unusedSimpArgs false
set_option maxRecDepth 10000
set_option maxHeartbeats 1000000
def encRow (l : List Word) : D := encL 3 (l.map encW)
end Go.Vm.Rx

/- What the walk over a text's lines comes to. -/
namespace Go.Vm.Rx
open Go Go.Proofs P
set_option linter.unusedVariables false
set_option linter.unusedSimpArgs false
set_option maxRecDepth 10000
set_option maxHeartbeats 1000000
/-- the store of the walk: results, the line's number, the rows and their room, the text that is left, the sign between, and the loop's record -/
noncomputable def TL (a : Nat) (n : Int) (rows : List (List Word)) (s : Str) (rs : RSt) : St :=
  [.cells [.sl .full 0 []], .cells [.int .i64 0], .cells [.int .i64 0], .cells [.int .i64 0], .cells [.int .i64 n], .cells [.sl (.own (a + 6) 0) 1 (rows.map encRow)], .tok rows.length,
   .cells [.str s], .cells [.str [10]], .cells [.int .i64 0], .dfb, .loop 38 (e38_8 (.ref (a + 4) 0) (.ref (a + 5) 0)) (rfAt Tryz.prog 38 8) rs]
noncomputable def T (A : St) (n : Int) (rows : List (List Word)) (s : Str) (rs : RSt) : St := A ++ TL A.length n rows s rs
end Go.Vm.Rx

/- What one round of the walk over a text's lines comes to. -/
namespace Go.Vm.Rx
open Go Go.Proofs P
set_option linter.unusedVariables false
set_option linter.unusedSimpArgs false
set_option maxRecDepth 10000
set_option maxHeartbeats 1000000
section
variable {A M : St} {n : Int} {e d : D} {m m' : Nat} {s : Str} {rs : RSt}
end
end Go.Vm.Rx

/- What the program's reader of texts comes to. -/
namespace Go.Vm.Rx
open Go Go.Proofs P
set_option linter.unusedVariables false
set_option linter.unusedSimpArgs false
set_option maxRecDepth 10000
set_option maxHeartbeats 1000000
end Go.Vm.Rx
