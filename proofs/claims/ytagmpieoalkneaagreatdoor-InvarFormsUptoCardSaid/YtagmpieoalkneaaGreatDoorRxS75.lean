/- RxS74, RxS75 in one text. -/
import Derived.Test.YtagmpieoalkneaaGreatDoorRxS73
set_option linter.all false
/- The program's reader of texts of invariants. -/
namespace Go.Vm.Rx
open Go Go.Proofs P
set_option maxRecDepth 10000
set_option maxHeartbeats 4000000
end Go.Vm.Rx

/- The law of what texts of invariants are parsed as. -/
namespace Go.Vm.Rx
open Go Go.Proofs P
set_option maxRecDepth 10000
set_option maxHeartbeats 4000000
def IvOk (v:Iv):Prop:=v.path.Ok∧v.ing.length≤100000000
section
variable (v:Iv)
theorem ivbx (A:St):boxO true (encIv v) A=some (.ref A.length 0,A++[.cells (ivC v)]):=by simp [boxO,cellIv,allocD]
theorem ivc1:ofCells false (ivC v) 1 1=some (.str v.pk):=rfl
theorem ivc2:ofCells false (ivC v) 2 1=some (encL 1 (v.ing.map .str)):=rfl
theorem ivc3:ofCells false (ivC v) 3 1=some (.int .i64 v.hops):=rfl
theorem ivc4:ofCells false (ivC v) 4 1=some (.int .i64 v.cmp):=rfl
theorem ivc5:ofCells false (ivC v) 5 1=some (.int .i64 v.cnt):=rfl
theorem ivc6:ofCells true (ivC v) 6 3=some (encRx v.path):=by rw [← rx_fold];rfl
end
theorem awake_is (A:St):Run Tryz.prog rxA 11 [] A=some (.ret (.bool true),A):=by
 rw [Run_ext _ _ (by decide) rfl];rfl
end Go.Vm.Rx
