/- RxS17, RxS18, RxS19 in one text. -/
import Derived.Test.YtmaipfiikbcfmaaDoorRxS16
set_option linter.all false
/- The reference's reader of words: parts in turn, repetitions. -/
namespace Go.Vm.Rx
open Go Go.Proofs P
set_option linter.unusedVariables false
set_option linter.unusedSimpArgs false
set_option maxRecDepth 10000
set_option maxHeartbeats 400000
variable {l : List Word} (hl : l.length ≤ 1000000) (hw : ∀ w, w ∈ l → w.t.length ≤ 100000000)
include hl hw
end Go.Vm.Rx

/- The reference's reader of words: repetitions. -/
namespace Go.Vm.Rx
open Go Go.Proofs P
set_option linter.unusedVariables false
set_option linter.unusedSimpArgs false
set_option maxRecDepth 10000
set_option maxHeartbeats 400000
/-- a row of kids as it stands in a variable -/
structure IsKs (x : D) (ks : List Rx) : Prop where
  cell : x.cell? = some x
  shut : ∀ n, x.shut n = x
  canon : x.canon = encL 3 (ks.map encRx)
theorem IsKs.enc (ks : List Rx) : IsKs (encL 3 (ks.map encRx)) ks := ⟨rfl, fun n => rxs_shut ks 3 n, rxs_canon ks 3⟩
theorem IsKs.one {x : D} {op : Int} {nm : Str} {ks : List Rx} (h : IsKs x ks) : IsKs (.sl .full 3 [.agg [.int .i64 op, .str nm, x]]) [.mk op nm ks] := by
  refine ⟨rfl, fun n => by simp [h.shut], ?_⟩
  simp only [D.canon, qan, qat, canon_agg, qag, qam, h.canon, List.map_cons, List.map_nil, encRx_mk]
  rfl
section
variable {x : D} {ks : List Rx} (h : IsKs x ks) (op : Int) (nm : Str)
include h
theorem ks_cells : (D.agg [.int .i64 op, .str nm, x]).cellsT true = some [.int .i64 op, .str nm, x] := by
  have e : allCells [.int .i64 op, .str nm, x] = true := by
    show (true && (true && (x.cell?.isSome && true))) = true
    rw [h.cell]; rfl
  simp [D.cellsT, D.agg?, e]
theorem ks_lay (a b c : D) : layCells true 3 0 [a, b, c] (.agg [.int .i64 op, .str nm, x]) = some [.int .i64 op, .str nm, x] := by simp [layCells, ks_cells h, splice]
theorem ks_sp : sliceParts 3 true 0 [(0, .agg [.int .i64 op, .str nm, x])] = some [.agg [.int .i64 op, .str nm, x]] := sparts1 _ _ _ _ (ks_cells h op nm) rfl
theorem ks_ret (n : Nat) : ((D.agg [.int .i64 op, .str nm, x]).shut n).canon = encRx (.mk op nm ks) := by
  simp only [shut_agg, qar, qay, qao, shut_strD, h.shut, canon_agg, qan, qat, qag, qam, h.canon, encRx_mk]
end
variable {l : List Word} (hl : l.length ≤ 1000000)
include hl
variable (hw : ∀ w, w ∈ l → w.t.length ≤ 100000000)
include hw
end Go.Vm.Rx

/- The reference's reader of words: atoms, and the whole reader. -/
namespace Go.Vm.Rx
open Go Go.Proofs P
set_option linter.unusedVariables false
set_option linter.unusedSimpArgs false
set_option maxRecDepth 10000
set_option maxHeartbeats 800000
variable {l : List Word} (hl : l.length ≤ 1000000) (hw : ∀ w, w ∈ l → w.t.length ≤ 100000000)
include hl hw
end Go.Vm.Rx
