/- RxS63, RxS64 in one text. -/
import Derived.Test.YtagmpieoalkneaaGreatDoorRxS62
set_option linter.all false
/- The reference's reader of a line: its small functions. -/
namespace Go.Vm.Rx
open Go Go.Proofs P
set_option maxRecDepth 10000
set_option maxHeartbeats 2000000
section
variable (l:List Word) (i ln cl b x:Int)
end
end Go.Vm.Rx

/- The reference's reader of a line: names that rise,a sign. -/
namespace Go.Vm.Rx
open Go Go.Proofs P
set_option maxRecDepth 10000
set_option maxHeartbeats 2000000
def ivC (v:Iv):List D:=[.str v.nm,.str v.pk,encL 1 (v.ing.map .str),.int .i64 v.hops,.int .i64 v.cmp,.int .i64 v.cnt,.int .i64 v.path.op,.str v.path.nm,encL 3 (v.path.ks.map encRx)]
def encIv (v:Iv):D:=.agg (ivC v)
theorem plainStr (l:List Str):PlainL (l.map .str):=PlainL.map (fun s=>⟨fun _=>rfl,rfl⟩) l
theorem str_canon (l:List Str) (n:Nat):(encL n (l.map .str)).canon=encL n (l.map .str):=(encL_plain (plainStr l) n).canon
theorem str_shut (l:List Str) (n m:Nat):(encL n (l.map .str)).shut m=encL n (l.map .str):=(encL_plain (plainStr l) n).shut m
theorem plainIv (v:Iv):Plain (encIv v):=by
 refine ⟨fun n=>?_, ?_⟩
 ·simp [encIv,ivC,str_shut,rxs_shut,D.shut]
 ·simp [encIv,ivC,D.canon,D.canonL,str_canon,rxs_canon]
theorem cellIv (v:Iv):(encIv v).cellsT true=some (ivC v):=by
 have:allCells (ivC v)=true:=by simp [ivC,allCells,D.cell?,encL]
 simp [encIv,D.cellsT,D.agg?,this]
theorem slss (n:Nat) (b:Bool) (x s:Str):binO .lss n b (.str x) (.str s)=some (.bool (decide (x<s))):=by
 show some (D.bool (Op.bytesLess x s))=_
 rw [Go.Proofs.bytesLess_eq]
end Go.Vm.Rx
