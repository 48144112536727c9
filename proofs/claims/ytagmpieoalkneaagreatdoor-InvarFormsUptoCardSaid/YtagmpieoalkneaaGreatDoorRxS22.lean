/- RxS18, RxS19, RxS20, RxS21, RxS22 in one text. -/
import Derived.Test.YtagmpieoalkneaaGreatDoorRxS17
import Derived.Test.YtagmpieoalkneaaGreatDoorRxI6
set_option linter.all false
/- The reference's reader of words: repetitions. -/
namespace Go.Vm.Rx
open Go Go.Proofs P
set_option maxRecDepth 10000
set_option maxHeartbeats 400000
structure IsKs (x:D) (ks:List Rx):Prop where
 cell:x.cell?=some x
 shut:∀ n,x.shut n=x
 canon:x.canon=encL 3 (ks.map encRx)
theorem IsKs.enc (ks:List Rx):IsKs (encL 3 (ks.map encRx)) ks:=⟨rfl,fun n=>rxs_shut ks 3 n,rxs_canon ks 3⟩
theorem IsKs.one {x:D} {op:Int} {nm:Str} {ks:List Rx} (h:IsKs x ks):IsKs (.sl .full 3 [.agg [.int .i64 op,.str nm,x]]) [.mk op nm ks]:=by
 refine ⟨rfl,fun n=>by simp [h.shut], ?_⟩
 simp only [D.canon,qbm,qbu,canon_agg,qaj,qat,h.canon,List.map_cons,List.map_nil,encRx_mk]
 rfl
section
variable {x:D} {ks:List Rx} (h:IsKs x ks) (op:Int) (nm:Str)
include h
end
variable {l:List Word} (hl:l.length≤1100000)
include hl
variable (hw:∀ w,w ∈ l→w.t.length≤100000000)
include hw
end Go.Vm.Rx

/- The reference's reader of words: atoms,and the whole reader. -/
namespace Go.Vm.Rx
open Go Go.Proofs P
set_option maxRecDepth 10000
set_option maxHeartbeats 800000
variable {l:List Word} (hl:l.length≤1100000) (hw:∀ w,w ∈ l→w.t.length≤100000000)
include hl hw
end Go.Vm.Rx

/- What the reference reads of words. -/
namespace Go.Vm.Rx
open Go Go.Proofs P
set_option maxRecDepth 10000
set_option maxHeartbeats 800000
variable {l:List Word} (hl:l.length≤1100000) (hw:∀ w,w ∈ l→w.t.length≤100000000)
include hl hw
end Go.Vm.Rx

/- What the reference parses a text as. -/
namespace Go.Vm.Rx
open Go Go.Proofs P
set_option maxRecDepth 10000
set_option maxHeartbeats 2000000
theorem sameAd_peek (cs:List D) (A B:St):sameAd (.peek cs) A B=True:=rfl
end Go.Vm.Rx

/- What the reference parses a text as: all of it. -/
namespace Go.Vm.Rx
open Go Go.Proofs P
set_option maxRecDepth 10000
set_option maxHeartbeats 2000000
end Go.Vm.Rx
