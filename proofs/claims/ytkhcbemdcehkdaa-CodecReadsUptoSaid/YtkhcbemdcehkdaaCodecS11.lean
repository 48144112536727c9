/- Which results may be: what both tests come to. -/
import Derived.Test.YtkhcbemdcehkdaaCodecS10
set_option linter.all false
namespace Go.Vm.Codec
open Go.Proofs
set_option linter.unusedVariables false
set_option linter.unusedSimpArgs false
set_option maxRecDepth 10000
set_option maxHeartbeats 1000000

/-- counts, is there no room behind the dump, the dump -/
structure Share where
  c : Nat
  f : Bool
  d : List UInt8
abbrev Shares := List Share
def ow (b : Bool) : Own := cond b .full .sh
theorem ow_shut (n : Nat) (b : Bool) : (ow b).shut n = ow b := by cases b <;> rfl
def shD (s : Share) : D := .agg [.int .u64 s.c, .sl (ow s.f) 1 (strBytes s.d)]
def sharesD (l : Shares) : List D := l.map shD
@[simp] theorem sharesD_length (l : Shares) : (sharesD l).length = l.length := by simp [sharesD]
theorem shutL_sh (n : Nat) (l : Shares) : D.shutL n (sharesD l) = sharesD l := by
  rw [shutL_eq]; unfold sharesD; rw [List.map_map]
  congr 1
  funext s
  simp [shD, ow_shut]
theorem index_sh (o : Own) (l : Shares) (i : Nat) (k : IntKind) (h : i < l.length) : indexAddrO 2 true (.sl o 2 (sharesD l)) (.int k (i : Int)) = some (.peek [.int .u64 l[i].c, .sl (ow l[i].f) 1 (strBytes l[i].d)]) := by
  have : ∀ s : Share, (shD s).cellsT true = some [.int .u64 s.c, .sl (ow s.f) 1 (strBytes s.d)] := fun s => rfl
  simp [indexAddrO, D.int?, esOk, sharesD, List.getElem?_eq_getElem h, this]
def resC (inv node : Int) (vo : Own) (v : Stamps) (so : Own) (sh : Shares) : List D := [.int .i64 inv, .int .i64 node, .sl vo 2 (stampsD v), .sl so 2 (sharesD sh)]
def resD (inv node : Int) (vo : Own) (v : Stamps) (so : Own) (sh : Shares) : D := .agg (resC inv node vo v so sh)
def szS : Shares → Nat
  | [] => 0
  | s :: r => 12 + s.d.length + szS r
end Go.Vm.Codec
