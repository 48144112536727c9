/- The hints and the layouts of the Codec texts, and slices.Clone by its own text. -/
import Derived.Test.YtkhcbemdcehkdaaVmK
import Derived.Test.YtkhcbemdcehkdaaProg
set_option linter.all false
namespace Go.Vm
def codecHint : FuncId → Hints
  | 5 => mkHints [] [(5, [0, 3, 4, 6, 7, 9, 33, 34])] [] .trunc
  | 9 => mkHints [(11, [(0, 1)])] [] [] .trunc
  | 12 => mkHints [] [] [] .trunc true true
  | 37 => mkHints [] [] [] .trunc false true
  | 16 => mkHints [] [(9, [0, 2, 5, 6, 7, 8, 9]), (16, [0, 2, 5, 6, 7, 11, 40])] [9, 16] .trunc
  | 17 => mkHints [] [(4, [2, 3, 5])] [] .trunc
  | 18 => mkHints [(15, [(0, 1)])] [(9, [1, 5, 38, 39, 40]), (16, [5, 64, 65, 66])] [] .trunc
  | 19 => mkHints [] [(7, [1, 5, 6]), (12, [1, 5, 7])] [] .trunc
  | 20 => mkHints [] [(9, [1, 39, 40, 41]), (16, [6, 55, 56, 57])] [] .trunc
  | 21 => mkHints [] [(9, [1, 4]), (14, [1, 5])] [] .trunc
  | 23 => mkHints [] [(1, [0, 1, 9, 10, 11]), (4, [0, 1, 7, 8, 9, 10, 11])] [] .trunc
  | 24 => mkHints [] [(2, [0, 1, 7])] [2] .own
  | 28 => mkHints [] [(3, [5, 12, 13, 14])] [] .trunc
  | 32 => mkHints [] [(3, [0, 1, 2, 7, 8])] [] .trunc
  | 34 => mkHints [(3, [(0, 2)])] [(3, [0, 3, 8, 9])] [] .trunc
  | 35 => mkHints [(3, [(0, 2)])] [(3, [0, 3, 8, 9])] [] .trunc
  | 38 => mkHints [] [(4, [0, 1, 5])] [] .trunc
  | 39 => mkHints [] [(2, [5, 6, 7])] [] .trunc
  | 40 => mkHints [] [(2, [0, 3]), (5, [0, 3, 4])] [] .trunc
  | 41 => mkHints [] [(3, [1, 3, 4])] [] .trunc
  | 42 => mkHints [] [(4, [0, 1, 12, 13])] [] .trunc
  | 43 => mkHints [] [(4, [1, 2, 15, 16, 17])] [] .trunc
  | 45 => mkHints [] [(4, [0, 1, 12, 13])] [] .trunc
  | 46 => mkHints [] [(2, [0, 1, 5])] [] .trunc
  | 52 => mkHints [] [(2, [0, 1, 7, 8])] [] .trunc
  | _ => mkHints [] [] [] .trunc
/-- slices.Clone of bytes -/
def cloneX (args : List D) (A : St) : ORes :=
  match args with
  | [.sl o es ds] => if esOk o es 1 ds = true ∧ roomOk ds.length 1 = true then some (.ret (.sl (if ds.isEmpty then .full else .sh) 1 ds), A) else none
  | _ => none
def codecH0 : Ext0 := { hint := codecHint, ext := fun _ => none }
def codecExt : FuncId → Option (List D → St → ORes)
  | 30 => some cloneX
  | _ => none
def codecH : Ext0 := { hint := codecHint, ext := codecExt }
def k3 : KH := ⟨joinText, fun r => (([] : List (Nat × List (List Nat))).lookup r).getD []⟩
def k4 : KH := ⟨joinText, fun r => (([] : List (Nat × List (List Nat))).lookup r).getD []⟩
def k5 : KH := ⟨joinText, fun r => (([(7, [[], [], [0, 1], [2, 0, 1], [], [], [4, 5], [6, 4, 5], [3, 7, 2, 0, 1, 6, 4, 5]])] : List (Nat × List (List Nat))).lookup r).getD []⟩
def k6 : KH := ⟨joinText, fun r => (([(3, [[], [0], [], [2], [1, 3, 0, 2], [4, 1, 3, 0, 2], [5, 4, 1, 3, 0, 2], [5, 4, 1, 3, 0, 2], [6, 7, 5, 4, 1, 3, 0, 2], [5, 8, 4, 1, 3, 0, 2, 6, 7], [9, 5, 8, 4, 1, 3, 0, 2, 6, 7], [10, 9, 5, 8, 4, 1, 3, 0, 2, 6, 7], [11, 10, 9, 5, 8, 4, 1, 3, 0, 2, 6, 7], [10, 9, 5, 8, 4, 1, 3, 0, 2, 6, 7], [13, 12, 10, 9, 5, 8, 4, 1, 3, 0, 2, 6, 7, 11], [12, 14, 10, 11, 9, 5, 8, 4, 1, 3, 0, 2, 6, 7, 13], [10, 15, 9, 5, 8, 4, 1, 3, 0, 2, 6, 7, 12, 14, 11, 13], [16, 14, 10, 15, 9, 5, 8, 4, 1, 3, 0, 2, 6, 7, 12, 11, 13], [17, 16, 14, 10, 15, 9, 5, 8, 4, 1, 3, 0, 2, 6, 7, 12, 11, 13], [17, 16, 14, 10, 15, 9, 5, 8, 4, 1, 3, 0, 2, 6, 7, 12, 11, 13], [18, 19, 17, 16, 14, 10, 15, 9, 5, 8, 4, 1, 3, 0, 2, 6, 7, 12, 11, 13], [17, 16, 14, 10, 15, 9, 5, 8, 4, 1, 3, 0, 2, 6, 7, 12, 11, 13], [17, 16, 14, 10, 15, 9, 5, 8, 4, 1, 3, 0, 2, 6, 7, 12, 11, 13], [21, 22, 20, 17, 16, 14, 10, 15, 9, 5, 8, 4, 1, 3, 0, 2, 6, 7, 12, 11, 13, 18, 19], [20, 23, 17, 18, 19, 16, 14, 10, 15, 9, 5, 8, 4, 1, 3, 0, 2, 6, 7, 12, 11, 13, 21, 22], [17, 24, 16, 14, 10, 15, 9, 5, 8, 4, 1, 3, 0, 2, 6, 7, 12, 11, 13, 20, 23, 18, 19, 21, 22], [25, 23, 17, 24, 16, 14, 10, 15, 9, 5, 8, 4, 1, 3, 0, 2, 6, 7, 12, 11, 13, 20, 18, 19, 21, 22], [26, 25, 23, 17, 24, 16, 14, 10, 15, 9, 5, 8, 4, 1, 3, 0, 2, 6, 7, 12, 11, 13, 20, 18, 19, 21, 22], [26, 25, 23, 17, 24, 16, 14, 10, 15, 9, 5, 8, 4, 1, 3, 0, 2, 6, 7, 12, 11, 13, 20, 18, 19, 21, 22], [27, 28, 26, 25, 23, 17, 24, 16, 14, 10, 15, 9, 5, 8, 4, 1, 3, 0, 2, 6, 7, 12, 11, 13, 20, 18, 19, 21, 22], [26, 29, 25, 23, 17, 24, 16, 14, 10, 15, 9, 5, 8, 4, 1, 3, 0, 2, 6, 7, 12, 11, 13, 20, 18, 19, 21, 22, 27, 28], [30, 29, 26, 25, 23, 17, 24, 16, 14, 10, 15, 9, 5, 8, 4, 1, 3, 0, 2, 6, 7, 12, 11, 13, 20, 18, 19, 21, 22, 27, 28], [31, 30, 29, 26, 25, 23, 17, 24, 16, 14, 10, 15, 9, 5, 8, 4, 1, 3, 0, 2, 6, 7, 12, 11, 13, 20, 18, 19, 21, 22, 27, 28], [31, 32, 30, 29, 26, 25, 23, 17, 24, 16, 14, 10, 15, 9, 5, 8, 4, 1, 3, 0, 2, 6, 7, 12, 11, 13, 20, 18, 19, 21, 22, 27, 28], [33, 32, 0, 1, 2, 3, 4, 5, 6, 7, 8, 9, 10, 11, 12, 13, 14, 15, 16, 17, 18, 19, 20, 21, 22, 23, 24, 25, 26, 27, 28, 29, 30, 31]])] : List (Nat × List (List Nat))).lookup r).getD []⟩
def k9 : KH := ⟨joinText, fun r => (([(7, [[], [0], [1, 0], [2, 1, 0], [], [4], [3, 5, 2, 1, 0, 4], [6, 0, 1, 2, 3, 4, 5], [7, 0, 1, 2, 3, 4, 5, 6]])] : List (Nat × List (List Nat))).lookup r).getD []⟩
def k10 : KH := ⟨joinText, fun r => (([(4, [[], [], [1], [2, 1], [0, 3, 2, 1], [], [5], [6, 5], [4, 7, 0, 3, 2, 1, 6, 5], [8, 0, 1, 2, 3, 4, 5, 6, 7]]), (5, [[], [], [1], [0, 2, 1], [], [4], [3, 5, 0, 2, 1, 4], [6, 0, 1, 2, 3, 4, 5]]), (6, [[], [], [1], [2, 1], [3, 2, 1], [0, 4, 3, 2, 1], [], [6], [5, 7, 0, 4, 3, 2, 1, 6], [8, 0, 1, 2, 3, 4, 5, 6, 7], [9, 0, 1, 2, 3, 4, 5, 6, 7, 8]])] : List (Nat × List (List Nat))).lookup r).getD []⟩
def k11 : KH := ⟨joinText, fun r => (([] : List (Nat × List (List Nat))).lookup r).getD []⟩
def k12 : KH := ⟨joinText, fun r => (([(10, [[], [0], [1, 0], [], [3], [4, 3], [], [6, 4, 3], [7, 6, 4, 3], [], [9, 7, 6, 4, 3], [], [11, 10, 9, 7, 6, 4, 3], [], [], [14], [13, 15, 12, 14, 11, 10, 9, 7, 6, 4, 3], [2, 5, 8, 10, 12, 16, 1, 0, 4, 3, 7, 6, 9, 11, 13, 15, 14], [], [18, 17, 16, 0, 1, 2, 3, 4, 5, 6, 7, 8, 9, 10, 11, 12, 13, 14, 15]])] : List (Nat × List (List Nat))).lookup r).getD []⟩
def k13 : KH := ⟨joinText, fun r => (([] : List (Nat × List (List Nat))).lookup r).getD []⟩
def k14 : KH := ⟨joinText, fun r => (([] : List (Nat × List (List Nat))).lookup r).getD []⟩
def k22 : KH := ⟨joinText, fun r => (([] : List (Nat × List (List Nat))).lookup r).getD []⟩
def k23 : KH := ⟨joinText, fun r => (([(6, [[], [], [1], [2, 1], [3, 2, 1], [], [], [6], [5, 7, 6], [8, 5, 7, 6], [9, 8, 5, 7, 6], [4, 10, 3, 2, 1, 9, 8, 5, 7, 6], [0, 1, 2, 3, 4, 5, 6, 7, 8, 9, 10, 11], [12, 0, 1, 2, 3, 4, 5, 6, 7, 8, 9, 10, 11], [13, 11, 0, 1, 2, 3, 4, 5, 6, 7, 8, 9, 10, 12]])] : List (Nat × List (List Nat))).lookup r).getD []⟩
def k24 : KH := ⟨joinText, fun r => (([] : List (Nat × List (List Nat))).lookup r).getD []⟩
def k25 : KH := ⟨joinText, fun r => (([] : List (Nat × List (List Nat))).lookup r).getD []⟩
def k26 : KH := ⟨joinText, fun r => (([(5, [[], [], [], [2], [], [4], [0, 2, 3], [6, 3, 0, 2], [1, 0, 2, 3, 4, 5, 6, 7], [8, 5, 7, 0, 1, 2, 3, 4, 6]])] : List (Nat × List (List Nat))).lookup r).getD []⟩
def k27 : KH := ⟨joinText, fun r => (([] : List (Nat × List (List Nat))).lookup r).getD []⟩
def k28 : KH := ⟨joinText, fun r => (([] : List (Nat × List (List Nat))).lookup r).getD []⟩
def k29 : KH := ⟨joinText, fun r => (([] : List (Nat × List (List Nat))).lookup r).getD []⟩
def k30 : KH := ⟨joinText, fun r => (([] : List (Nat × List (List Nat))).lookup r).getD []⟩
def k31 : KH := ⟨joinText, fun r => (([(4, [[], [], [], [2], [3, 2], [4, 3, 2], [], [5, 6, 4, 3, 2], [], [8], [9, 8], [10, 9, 8], [], [11, 12, 10, 9, 8], [0, 2, 3, 4, 5, 6, 7, 11, 10, 9, 8], [14, 0, 2, 3, 4, 5, 6, 7, 11, 10, 9, 8], [15, 7, 0, 2, 3, 4, 5, 6, 11, 14, 10, 9, 8], [1, 0, 2, 3, 4, 5, 6, 7, 8, 9, 10, 11, 12, 13, 14, 15, 16], [17, 0, 1, 2, 3, 4, 5, 6, 7, 8, 9, 10, 11, 12, 13, 14, 15, 16], [18, 13, 16, 0, 1, 2, 3, 4, 5, 6, 7, 8, 9, 10, 11, 12, 14, 15, 17]])] : List (Nat × List (List Nat))).lookup r).getD []⟩
def k32 : KH := ⟨joinText, fun r => (([] : List (Nat × List (List Nat))).lookup r).getD []⟩
end Go.Vm
