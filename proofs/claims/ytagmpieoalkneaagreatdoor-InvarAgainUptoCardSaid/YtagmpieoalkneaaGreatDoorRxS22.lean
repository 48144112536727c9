/- RxS18, RxS19, RxS20, RxS21, RxS22 in one text. -/
import Derived.Test.YtagmpieoalkneaaGreatDoorRxS17
import Derived.Test.YtagmpieoalkneaaGreatDoorRxI8
set_option linter.all false
/- The reference's reader of words: repetitions. -/
namespace Go.Vm.Rx
open Go Go.Proofs P
set_option maxRecDepth 10000
set_option maxHeartbeats 400000
structure IsKs (x : D) (ks : List Rx) : Prop where
  cell : x.cell? = some x
  shut : ∀ n,x.shut n = x
  canon : x.canon = encL 3 (ks.map encRx)
theorem IsKs.enc (ks : List Rx) : IsKs (encL 3 (ks.map encRx)) ks:=⟨rfl,fun n => rxs_shut ks 3 n,rxs_canon ks 3⟩
theorem IsKs.one {x : D} {op : Int} {nm : Str} {ks : List Rx} (h : IsKs x ks) : IsKs (.sl .full 3 [.agg [.int .i64 op,.str nm,x]]) [.mk op nm ks]:=by
  refine ⟨rfl,fun n => by simp [h.shut], ?_⟩
  simp only [D.canon,qas,qav,qby,qah,qap,h.canon,List.map_cons,List.map_nil,encRx_mk]
  rfl
section
variable {x : D} {ks : List Rx} (h : IsKs x ks) (op : Int) (nm : Str)
include h
theorem ks_cells : (D.agg [.int .i64 op,.str nm,x]).cellsT true = some [.int .i64 op,.str nm,x]:=by
  have e : allCells [.int .i64 op,.str nm,x] = true:=by
    show (true && (true && (x.cell?.isSome && true))) = true
    rw [h.cell]; rfl
  simp [D.cellsT,D.agg?,e]
theorem ks_lay (a b c : D) : layCells true 3 0 [a,b,c] (.agg [.int .i64 op,.str nm,x]) = some [.int .i64 op,.str nm,x]:=by simp [layCells,ks_cells h,splice]
theorem ks_sp : sliceParts 3 true 0 [(0,.agg [.int .i64 op,.str nm,x])] = some [.agg [.int .i64 op,.str nm,x]]:=sparts1 _ _ _ _ (ks_cells h op nm) rfl
theorem ks_ret (n : Nat) : ((D.agg [.int .i64 op,.str nm,x]).shut n).canon = encRx (.mk op nm ks):=by
  simp only [shut_agg,qau,qax,qaj,qbs,h.shut,qby,qas,qav,qah,qap,h.canon,encRx_mk]
end
variable {l : List Word} (hl : l.length ≤ 1100000)
include hl
variable (hw : ∀ w,w ∈ l → w.t.length ≤ 100000000)
include hw
end Go.Vm.Rx

/- The reference's reader of words: atoms,and the whole reader. -/
namespace Go.Vm.Rx
open Go Go.Proofs P
set_option maxRecDepth 10000
set_option maxHeartbeats 800000
variable {l : List Word} (hl : l.length ≤ 1100000) (hw : ∀ w,w ∈ l → w.t.length ≤ 100000000)
include hl hw
end Go.Vm.Rx

/- What the reference reads of words. -/
namespace Go.Vm.Rx
open Go Go.Proofs P
set_option maxRecDepth 10000
set_option maxHeartbeats 800000
variable {l : List Word} (hl : l.length ≤ 1100000) (hw : ∀ w,w ∈ l → w.t.length ≤ 100000000)
def readD (x : Rx × Nat × Int) : D:=.tup [encRx x.1,.int .i64 (x.2.1 : Nat),.int .i64 x.2.2]
include hl hw
end Go.Vm.Rx

/- What the reference parses a text as. -/
namespace Go.Vm.Rx
open Go Go.Proofs P
set_option maxRecDepth 10000
set_option maxHeartbeats 2000000
theorem readP_at {l : List Word} (hw : ∀ w,w ∈ l → w.t.length ≤ 100000000) : (readP l).2.1 ≤ l.length:=by
  unfold readP
  obtain ⟨x,hx⟩:=(ends hw (8 * l.length + 4)).alt 0 0 (by omega) (by omega)
  have hfc:=(facts hw (8 * l.length + 4)).alt 0 0 x (by omega) hx
  rw [hx]
  rcases x with ⟨a,c⟩ | ⟨r,j⟩
  · exact hfc.2.1
  · dsimp only
    split
    · exact Nat.le_of_lt ‹_›
    · split <;> exact Nat.zero_le _
theorem sameAd_peek (cs : List D) (A B : St) : sameAd (.peek cs) A B = True:=rfl
end Go.Vm.Rx

/- What the reference parses a text as: all of it. -/
namespace Go.Vm.Rx
open Go Go.Proofs P
set_option maxRecDepth 10000
set_option maxHeartbeats 2000000
end Go.Vm.Rx
