/- RxS61, RxS62 in one text. -/
import Derived.Test.YtagmpieoalkneaaGreatDoorRxS60
set_option linter.all false
/- Numbers and signs: what both texts say of them. -/
namespace Go.Vm.Rx
open Go Go.Proofs P
set_option maxRecDepth 10000
set_option maxHeartbeats 2000000
def signT (n : Int) : Str := if n = 2 then [60, 61] else if n = 3 then [62, 61] else [61, 61]
theorem s43 (n : Int) (A : St) : f43 (.int .i64 n) A = some (.ret (.str (signT n)), A) := by
  unfold f43 n43; dsimp only
  refine qa5 ?_
  by_cases h2 : n = 2
  · subst h2
    (repeat' first | (with_reducible first | apply qai | apply qaa (b := true) | apply qat | (apply qbo; omega)))
    ((try conv => arg 2; simp only [qae, qbx, qal, qad, List.take_length, qau, qab, qaf]); refine qak ?_)
    rfl
  · by_cases h3 : n = 3
    · subst h3
      (repeat' first | (with_reducible first | apply qai | apply qaa (b := true) | apply qaa (b := false) | apply qat | apply qao | (apply qbo; omega) | (apply qbv; omega)))
      ((try conv => arg 2; simp only [qae, qbx, qal, qad, List.take_length, qau, qab, qaf]); refine qak ?_)
      rfl
    · unfold signT
      rw [if_neg h2, if_neg h3]
      (repeat' first | (with_reducible first | apply qai | apply qaa (b := false) | apply qao | (apply qbv; omega)))
      ((try conv => arg 2; simp only [qae, qbx, qal, qad, List.take_length, qau, qab, qaf]); refine qak ?_)
      rfl
theorem s90 (A : St) : f90 A = some (.ret (encL 1 [.str [61, 61], .str [60, 61], .str [62, 61]]), A) := by
  unfold f90 n90; dsimp only
  refine qa5 ?_
  (repeat' first | (with_reducible first | apply qa4 | apply qai) | ((conv => arg 2; arg 1; simp only [sparts_str3]); (with_reducible apply qac)))
  ((try conv => arg 2; simp only [qae, qbx, shut_sl, qbl, qbg, own_full, qal, qad, List.take_length, qab, qaf]); refine qak ?_)
  rfl
theorem dc79p (A L : St) (o : D) (x : Int) : Dcall Tryz.prog rxA (.fn (.func 79) [] []) [.ref A.length 0] (some (.iface 179 (.agg [.int .i64 x]))) (A ++ (.cells [o] :: L)) =
    some (none, A ++ (.cells [.int .i64 x] :: L)) := by
  rw [rd79p]
  unfold d79p nd79p; dsimp only
  have has : ∀ z d, assertV z (.iface 179 d) 179 true = some (.tup [d, .bool true]) := fun _ _ => rfl
  have hk := fun M => Kept_tail (A := A) (L := .cells [o] :: L) (L' := .cells [.int .i64 x] :: (L ++ M)) (by simp) (fun i hi => by
    match i, hi with
    | 0, _ => exact .inr ⟨_, rfl, by simp⟩
    | i + 1, hi =>
      left
      simp only [List.length_cons] at hi
      simp only [List.getElem?_cons_succ]
      rw [List.getElem?_append_left (by omega)])
  have hk' := fun M => iff_true_intro (hk M)
  have htk : ∀ M, (A ++ (Slot.cells [.int .i64 x] :: (L ++ M))).take (A.length + (L.length + 1)) = A ++ (Slot.cells [.int .i64 x] :: L) := fun M => by
    rw [List.take_length_add_append]; simp
  have hl1 : layCells true 1 0 [D.int .i64 0] (.agg [.int .i64 x]) = some [.int .i64 x] := rfl
  refine qa5 ?_
  (repeat' first | (with_reducible first | apply qa4 | apply tp_gk | apply qaa (b := false) | apply qao) | ((conv => arg 2; arg 1; simp (disch := first | omega | assumption) only [nilCheck_ref, qah, qa1, Nat.add_zero, alloc_eq, lay_int, List.length_append, List.length_cons, un_not, Bool.not_true, qbk, app_one, qb0, ld_sh, qbd, ldc0, ldcS, sto_sh, sto_sh0, stoc0, stocS, ext0, extS, ifc_nil, has, hk', hl1]); (with_reducible first | apply qac | apply qbr)))
  conv => arg 2; simp (disch := first | omega | assumption) only [List.length_append, List.length_cons, htk]
  exact qak rfl
theorem dc79n (r : D) (S : St) : Dcall Tryz.prog rxA (.fn (.func 79) [] []) [r] none S = some (none, S) := by
  rw [rd79n]
  unfold d79n nd79n; dsimp only
  have hn : binO .eql 1 true (.val .nilIface) (.val .nilIface) = some (.bool true) := rfl
  refine qa5 ?_
  (repeat' first | (with_reducible first | apply tp_gk | apply qaa (b := true) | apply qat) | ((conv => arg 2; arg 1; simp (disch := first | omega | assumption) only [qal, hn]); (with_reducible first | apply qac | apply qbr)))
  ((try conv => arg 2; simp only [List.take_length]); refine qak ?_)
  rfl
theorem s35 (s : Str) (hs : s.length < 4611686018427387904) (A : St) : f35 (.str s) A = some (.ret (.int .i64 (if isCube s = true then 0 else 10)), A) := by
  have hm := fun A => s80 s hs A
  have hcn : (D.sl .full 1 [.str s]).canon = encL 1 [.str s] := rfl
  unfold f35 n35; dsimp only
  refine qa5 ?_
  cases h : isCube s
  · simp only [h, Bool.false_eq_true, if_false] at hm
    (repeat' first | (with_reducible first | apply qa4 | apply tp_pan | apply qai) | ((conv => arg 2; arg 1; simp (disch := first | omega | assumption) only [bn_some, Option.map_some, Option.bind_some, qas, leaves_cons, qa1, alloc_eq, qbd, ldc0, sparts_str, r80, hcn, hm, dc79p]); (with_reducible apply qac)))
    ((try conv => arg 2; simp (disch := first | omega | assumption) only [qae, qar, qap, qad, qaj, qab, qaf, List.take_left']); refine qak ?_)
    rfl
  · simp only [h, if_true] at hm
    (repeat' first | (with_reducible first | apply qa4 | apply qaz | apply qai) | ((conv => arg 2; arg 1; simp (disch := first | omega | assumption) only [bn_some, Option.map_some, Option.bind_some, qas, leaves_cons, qa1, alloc_eq, lay_int, qbk, qbd, ldc0, sto_sh0, stoc0, sparts_str, r80, hcn, hm, dc79n]); (with_reducible apply qac)))
    ((try conv => arg 2; simp (disch := first | omega | assumption) only [qae, qar, qap, qad, qaj, qab, qaf, List.take_left']); refine qak ?_)
    rfl
end Go.Vm.Rx

/- The program's reader of a line: its small functions. -/
namespace Go.Vm.Rx
open Go Go.Proofs P
set_option maxRecDepth 10000
set_option maxHeartbeats 2000000
section
variable (l : List Word) (i x : Int)
end
structure LineOk (l : List Word) : Prop where
  ne : l ≠ []
  len : l.length ≤ 1100000
  wd : ∀ w, w ∈ l → WordOk 10000000 w
theorem LineOk.short {l : List Word} (h : LineOk l) : ∀ w, w ∈ l → w.t.length ≤ 100000000 := fun w hm => by
  have := (h.wd w hm).2.2.2.1; omega
theorem LineOk.at_ {l : List Word} (h : LineOk l) (i : Nat) : (wordAt l i).length ≤ 10000000 := by
  unfold wordAt
  cases e : l[i]? with
  | none => simp
  | some w => exact (h.wd w (List.mem_of_getElem? e)).2.2.2.1
end Go.Vm.Rx
