/- RxS17, RxS18, RxS19 in one text. -/
import Derived.Test.YtikjlgcbcljehaaGreatDoorRxS16
set_option linter.all false
/- The reference's reader of words: parts in turn, repetitions. -/
namespace Go.Vm.Rx
open Go Go.Proofs P
set_option linter.unusedVariables false
set_option linter.unusedSimpArgs false
set_option maxRecDepth 10000
set_option maxHeartbeats 400000
variable {l : List Word} (hl : l.length ≤ 1000000) (hw : ∀ w, w ∈ l → w.t.length ≤ 100000000)
include hl hw
end Go.Vm.Rx

/- The reference's reader of words: repetitions. -/
namespace Go.Vm.Rx
open Go Go.Proofs P
set_option linter.unusedVariables false
set_option linter.unusedSimpArgs false
set_option maxRecDepth 10000
set_option maxHeartbeats 400000
/-- a row of kids as it stands in a variable -/
structure IsKs (x : D) (ks : List Rx) : Prop where
  cell : x.cell? = some x
  shut : ∀ n, x.shut n = x
  canon : x.canon = encL 3 (ks.map encRx)
theorem IsKs.enc (ks : List Rx) : IsKs (encL 3 (ks.map encRx)) ks := ⟨rfl, fun n => rxs_shut ks 3 n, rxs_canon ks 3⟩
theorem IsKs.one {x : D} {op : Int} {nm : Str} {ks : List Rx} (h : IsKs x ks) : IsKs (.sl .full 3 [.agg [.int .i64 op, .str nm, x]]) [.mk op nm ks] := by
  refine ⟨rfl, fun n => by simp [h.shut], ?_⟩
  simp only [D.canon, canonL_cons, canonL_nil, canon_agg, qam, canon_str, h.canon, List.map_cons, List.map_nil, encRx_mk]
  rfl
section
variable {x : D} {ks : List Rx} (h : IsKs x ks) (op : Int) (nm : Str)
include h
end
variable {l : List Word} (hl : l.length ≤ 1000000)
include hl
variable (hw : ∀ w, w ∈ l → w.t.length ≤ 100000000)
include hw
end Go.Vm.Rx

/- The reference's reader of words: atoms, and the whole reader. -/
namespace Go.Vm.Rx
open Go Go.Proofs P
set_option linter.unusedVariables false
set_option linter.unusedSimpArgs false
set_option maxRecDepth 10000
set_option maxHeartbeats 800000
variable {l : List Word} (hl : l.length ≤ 1000000) (hw : ∀ w, w ∈ l → w.t.length ≤ 100000000)
include hl hw
end Go.Vm.Rx
