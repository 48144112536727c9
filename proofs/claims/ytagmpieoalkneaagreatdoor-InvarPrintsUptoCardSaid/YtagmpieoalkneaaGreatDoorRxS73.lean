/- RxS67, RxS68, RxS73 in one text. -/
import Derived.Test.YtagmpieoalkneaaGreatDoorRxS66
import Derived.Test.YtagmpieoalkneaaGreatDoorRxS72
set_option linter.all false
/- The reference's reader of a line: all of it. -/
namespace Go.Vm.Rx
open Go Go.Proofs P
set_option maxRecDepth 10000
set_option maxHeartbeats 4000000
end Go.Vm.Rx

/- The reference's reader of texts of invariants. -/
namespace Go.Vm.Rx
open Go Go.Proofs P
set_option maxRecDepth 10000
set_option maxHeartbeats 4000000
theorem ivc0 (v : Iv) : ofCells false (ivC v) 0 1 = some (.str v.nm) := rfl
theorem ivcA (v : Iv) : ofCells true (ivC v) 0 9 = some (encIv v) := rfl
theorem ivcS (v : Iv) (nm pk : Str) (ig : D) (h c n : Int) : layCells true 9 0 (ivX nm pk ig h c n) (encIv v) = some (ivC v) := by
  simp only [layCells, cellIv, Option.bind_some]
  rfl
theorem ivs_canon (l : List Iv) (n : Nat) : (encL n (l.map encIv)).canon = encL n (l.map encIv) := (encL_plain (plainIvs l) n).canon
theorem ivs_shut (l : List Iv) (n m : Nat) : (encL n (l.map encIv)).shut m = encL n (l.map encIv) := (encL_plain (plainIvs l) n).shut m
theorem s31_loop (nm : Str) (l : List Iv) (hl : l.length ≤ 100000000) (A : St) : ∀ (t : List Iv) (i : Nat), l.drop i = t →
    LP Tryz.prog rxA 31 [0, 1, 0, 1] [A] (Env.mk (sp [(0, encL 9 (l.map encIv)), (0, .str nm), (3, .int .i64 (i : Nat))] 13) []) A = some (.ret (.bool (knownP t nm)), A) := by
  intro t
  induction t with
  | nil =>
    intro i ht
    have h1 := qbt ht
    refine qa5 (qbf (q31_0 ..) ?_)
    unfold n31_0; dsimp only
    (repeat' first | (with_reducible first | apply qai | apply qaa (b := false) | apply qao) | ((conv => arg 2; arg 1; simp only [Option.map_some, qas, qa6, qba, qa8, qax, List.length_map]); (with_reducible first | apply qac | (apply qa3; omega))))
    ((try conv => arg 2; simp only [qae, qaq, qal, qad, List.take_length, qan, qab, qaf]); refine qak ?_)
    rfl
  | cons x t ih =>
    intro i ht
    have h1 := qbz ht
    have hx := qbw (f := encIv) ht 9 true .i64
    refine qa5 (qbf (q31_0 ..) ?_)
    unfold n31_0; dsimp only
    by_cases he : x.nm = nm
    · have e : knownP (x :: t) nm = true := by simp [knownP, he]
      rw [e]
      (repeat' first | (with_reducible first | apply qa4 | apply qai | apply qaa (b := true) | apply qat) | ((conv => arg 2; arg 1; simp (disch := first | omega | assumption) only [Option.map_some, qas, fieldAddr_peek, qa2, List.drop_zero, qa6, qba, qa8, qbk, qax, List.length_map, hx, cellIv, ivc0]); (with_reducible first | apply qac | (apply qa0; omega) | (apply tot_seql_t; first | assumption | with_reducible rfl))))
      ((try conv => arg 2; simp only [qae, qaq, qal, qad, List.take_length, qan, qab, qaf]); refine qak ?_)
      rfl
    · have e : knownP (x :: t) nm = knownP t nm := by simp [knownP, he]
      rw [e]
      (repeat' first | (with_reducible first | apply qa4 | apply tp_gk | apply qaa (b := true) | apply qaa (b := false) | apply qat | apply qao) | ((conv => arg 2; arg 1; simp (disch := first | omega | assumption) only [qbb, qa7, qal, fieldAddr_peek, qa2, List.drop_zero, qa6, qba, qa8, qbk, qax, List.length_map, hx, cellIv, ivc0]); (with_reducible first | apply qac | apply qbr | (apply qa0; omega) | (apply tot_seql_f; first | assumption | decide | exact List.cons_ne_nil _ _))))
      (refine qaw ?_; (conv => lhs; simp only [qar, qbs, qbx, List.take_length, List.map_nil, qa6, qa8]); rw [ivs_shut]; have := ih (i + 1) (qbc ht); exact this)
theorem s31 (nm : Str) (l : List Iv) (hl : l.length ≤ 100000000) (A : St) : f31 (encL 9 (l.map encIv)) (.str nm) A = some (.ret (.bool (knownP l nm)), A) := by
  have := s31_loop nm l hl A l 0 rfl
  unfold f31 n31; dsimp only
  refine qa5 ?_
  skip
  (refine qaw ?_; (conv => lhs; simp only []); exact this)
end Go.Vm.Rx

/- The program's reader of texts of invariants: is a name there, what is caught. -/
namespace Go.Vm.Rx
open Go Go.Proofs P
set_option maxRecDepth 10000
set_option maxHeartbeats 4000000
end Go.Vm.Rx
