/- RxS29, RxS30, RxS31 in one text. -/
import Derived.Test.YtmaipfiikbcfmaaDoorRxS28
set_option linter.all false
/- What the program reads of words. -/
namespace Go.Vm.Rx
open Go Go.Proofs P
set_option linter.unusedVariables false
set_option linter.unusedSimpArgs false
set_option linter.unusedSectionVars false
set_option maxRecDepth 10000
set_option maxHeartbeats 2000000
theorem Kept3 {A L M : St} {s0 s1 s2 t0 t1 t2 : Slot} (h0 : ∀ n, t0.shut n = t0) (h1 : ∀ n, t1.shut n = t1) (h2 : ∀ n, t2.shut n = t2) :
    Kept (A ++ (s0 :: s1 :: s2 :: L)) (A ++ (t0 :: t1 :: t2 :: (L ++ M))) ↔ True := by
  refine iff_true_intro (Kept_tail (by simp) fun i hi => ?_)
  match i, hi with
  | 0, _ => exact .inr ⟨_, rfl, h0 _⟩
  | 1, _ => exact .inr ⟨_, rfl, h1 _⟩
  | 2, _ => exact .inr ⟨_, rfl, h2 _⟩
  | i + 3, hi =>
    left
    simp only [List.length_cons] at hi
    simp only [List.getElem?_cons_succ]
    rw [List.getElem?_append_left (by omega)]
theorem take3 {A L M : St} {s0 s1 s2 t0 t1 t2 : Slot} : (A ++ (t0 :: t1 :: t2 :: (L ++ M))).take (A ++ (s0 :: s1 :: s2 :: L)).length = A ++ (t0 :: t1 :: t2 :: L) := by
  have e : A ++ (t0 :: t1 :: t2 :: (L ++ M)) = (A ++ (t0 :: t1 :: t2 :: L)) ++ M := by simp
  rw [e, List.take_append_of_le_length (by simp), List.take_of_length_le (by simp)]
theorem take3' {A L M : St} {t0 t1 t2 : Slot} : (A ++ (t0 :: t1 :: t2 :: (L ++ M))).take (A.length + (L.length + 1 + 1 + 1)) = A ++ (t0 :: t1 :: t2 :: L) := by
  have := take3 (A := A) (L := L) (M := M) (s0 := .dead) (s1 := .dead) (s2 := .dead) (t0 := t0) (t1 := t1) (t2 := t2)
  simpa [List.length_append, Nat.add_assoc] using this
theorem dc30p (A L : St) (o0 o1 o2 a1 a2 : D) (x y : Int) : Dcall Tryd.prog rxA (.fn (.func 30) [] [.ref A.length 0, .ref (A.length + 1) 0, .ref (A.length + 2) 0]) [] (some (.iface 69 (.agg [.int .i64 x, .int .i64 y])))
      (A ++ (.cells [o0, a1, a2] :: .cells [o1] :: .cells [o2] :: L)) =
    some (none, A ++ (.cells [.int .i64 0, .str [], .sl .full 0 []] :: .cells [.int .i64 x] :: .cells [.int .i64 y] :: L)) := by
  rw [rd30p]
  unfold d30p
  have has : ∀ z d, assertV z (.iface 69 d) 69 true = some (.tup [d, .bool true]) := fun _ _ => rfl
  have hk := fun M => Kept3 (A := A) (L := L) (M := M) (s0 := .cells [o0, a1, a2]) (s1 := .cells [o1]) (s2 := .cells [o2]) (t0 := .cells [.int .i64 0, .str [], .sl .full 0 []]) (t1 := .cells [.int .i64 x]) (t2 := .cells [.int .i64 y]) (fun n => by simp) (fun n => by simp) (fun n => by simp)
  refine Tot.eq ?_
  (repeat' first | (with_reducible first | apply Tot.of (qa4 rfl) | apply Tot.of (st_gs rfl) | apply Tot.of (st_gk rfl) | apply Tot.bql (b := false) | apply Tot.iff) | ((conv => arg 2; arg 1; simp (disch := first | omega | assumption) only [qae, qbc, ofCellsS, Nat.zero_add, Nat.add_zero, qa1, lay_int, List.length_append, List.length_cons, un_not, Bool.not_true, and_self, qaw, qaj, app_one, app_cons', ld_sh, ld_sh0, ldc0, ldcS, sto_sh, sto_sh0, stoc0, stocS, ext0, extS, lay_ii, sameAd_ref, get_sh, List.getElem?_cons_succ, ifc_nil, has, hk, lay3]); (with_reducible first | apply Tot.of (qaa rfl) | apply Tot.of (st_guard rfl))))
  conv => arg 2; simp (disch := first | omega | assumption) only [List.length_append, List.length_cons, take3']
  exact Tot.ret rfl
theorem dc30n (a b c : D) (S : St) : Dcall Tryd.prog rxA (.fn (.func 30) [] [a, b, c]) [] none S = some (none, S) := by
  rw [rd30n]
  unfold d30n
  have hn : negIf false true = .bool true := rfl
  refine Tot.eq ?_
  (repeat' first | (with_reducible first | apply Tot.of (st_gk rfl) | apply Tot.ift) | ((conv => arg 2; arg 1; simp (disch := first | omega | assumption) only [qa6, hn]); (with_reducible first | apply Tot.of (st_guard rfl) | apply Tot.bql (b := true))))
  ((try conv => arg 2; simp (disch := first | omega | assumption) only [List.take_length]); refine Tot.ret ?_)
  rfl
theorem st_ps (A : St) (a b c : Slot) (cs cs' : List D) : A ++ [a, b, c, .cells cs] = st (A ++ [a, b, c, .cells cs']) (A.length + 3) cs := by simp [st]
theorem st_ps2 (A L : St) (a b c : Slot) (cs cs' : List D) : st (A ++ a :: b :: c :: .cells cs' :: L) (A.length + 3) cs = A ++ a :: b :: c :: .cells cs :: L := by simp [st]
theorem s13 (l : List Word) (hl : l.length ≤ 1000000) (hw : ∀ w, w ∈ l → w.t.length ≤ 100000000) (A : St) : f13 mL (Run Tryd.prog rxA) (Dcall Tryd.prog rxA) (encL 3 (l.map encW)) A = some (.ret (readD (readP l)), A) := by
  obtain ⟨x, hx⟩ := (ends hw (8 * l.length + 4)).alt 0 0 (by omega) (by omega)
  have hfc := (facts hw (8 * l.length + 4)).alt 0 0 x (by omega) hx
  unfold readP
  rw [hx]
  unfold f13
  have h2a : ∀ (y : D) (e : D), e.cell? = some e → layCells true 2 0 [y, .int .i64 0, .int .i64 0] (.agg [e, .int .i64 0]) = some [e, .int .i64 0, .int .i64 0] := fun y e he => by
    have ha : allCells [e, .int .i64 0] = true := by
      show (e.cell?.isSome && (true && true)) = true
      rw [he]; rfl
    simp [layCells, D.cellsT, D.agg?, ha, splice]
  have hbx : ∀ (e : D) (B : St), e.cell? = some e → boxO true (.agg [e, .int .i64 0, .int .i64 0]) B = some (.ref B.length 0, B ++ [.cells [e, .int .i64 0, .int .i64 0]]) := fun e B he => by
    have ha : allCells [e, .int .i64 0, .int .i64 0] = true := by
      show (e.cell?.isSome && (true && (true && true))) = true
      rw [he]; rfl
    simp [boxO, D.cellsT, D.agg?, ha, allocD]
  have hlw : layCells false 1 0 [.sl .full 0 [], .int .i64 0] (encL 3 (l.map encW)) = some [encL 3 (l.map encW), .int .i64 0] := rfl
  have h2b := fun y => h2a y (encL 3 (l.map encW)) rfl
  have hbb := fun B => hbx (encL 3 (l.map encW)) B rfl
  refine Tot.eq ?_
  (repeat' first | (with_reducible first | apply Tot.of (qaa rfl) | apply Tot.of (st_bind rfl) | apply Tot.of (qa2 rfl)) | ((conv => arg 2; arg 1; simp (disch := first | omega | assumption) only [Nat.zero_add, qa1, List.length_append, List.length_cons, List.length_nil, qaj, app_one, app_nil', app_cons', Nat.reduceAdd, hlw, h2b, hbb]); (with_reducible first | apply Tot.of (qaa rfl))))
  rw [st_ps A _ _ _ _ (psC l 0 0)]
  conv => arg 2; arg 1; simp (disch := first | omega | assumption) only [qap, r31]
  have hq := (progSpec hl hw (8 * l.length + 4)).alt (A ++ [.cells [.int .i64 0, .str [], .sl .full 0 []], .cells [.int .i64 0], .cells [.int .i64 0], .cells (psC l 0 0)]) (A.length + 3) 0 0 x (by simp) (by omega) (by omega) hx
  refine Tot.bn hq fun z hz => ?_
  rcases x with ⟨a, c⟩ | ⟨r, j⟩
  · obtain ⟨i', o', rfl⟩ := hz
    simp only [st_ps2]
    (repeat' first | (with_reducible first | apply Tot.of (st_pan rfl) | apply Tot.of (qar rfl)) | ((conv => arg 2; arg 1; simp (disch := first | omega | assumption) only [Option.map_some, Option.bind_some, qal, leaves_cons, qbc, ofA3, packD, qaw, ld_sh, ld_sh0, ldc0, ldcS, dc30p]); (with_reducible first | apply Tot.of (qaa rfl))))
    ((try conv => arg 2; simp (disch := first | omega | assumption) only [qac, qan, qbb, shut_sl, shut_agg, shut_tup, qax, qao, own_full, qaq, qad, qai, qaz, qbd, canon_tup, qas, qam, canon_nil, qab, qaf, List.take_left']); refine Tot.ret ?_)
    rfl
  · cases (show z = _ from hz)
    have g : Good l.length 0 r j := hfc
    have g1 := g.size; have g2 := g.le
    have hch := s24 r (Rx.Nm.ok r g.nm (by omega))
    have hz0 : ((0:Nat):Int) = 0 := rfl
    have hfa := fun a b c L => s32 (A ++ a :: b :: c :: .cells (psC l 0 0) :: L) (A.length + 3) l j 0 90 (by simp)
    simp only [st_ps2] at hfa ⊢
    by_cases hj : j < l.length
    · simp only [if_pos hj]
      (repeat' first | (with_reducible first | apply Tot.of (qau rfl) | apply Tot.of (qa2 rfl) | apply Tot.of (qa4 rfl) | apply Tot.of (qak rfl) | apply Tot.of (qa0 rfl) | apply Tot.of (qav rfl) | apply Tot.of (st_pan rfl) | apply Tot.of (st_inr rfl) | apply Tot.of (qat rfl) | apply Tot.bql (b := true) | apply Tot.ift | (apply Tot.lss_t; omega)) | ((conv => arg 2; arg 1; simp (disch := first | omega | assumption) only [qac, Option.map_some, Option.bind_some, qan, qbb, shut_sl, shut_agg, shut_tup, qax, qao, own_full, qaq, qad, qal, leaves_cons, qah, qae, qbc, Nat.zero_add, Nat.add_zero, qa1, ofA3, packD, List.length_append, List.length_cons, List.length_nil, qaw, qaj, qai, qaz, qap, qbd, canon_tup, qas, qam, canon_nil, qab, qaf, qbe, app_one, app_nil', app_cons', ld_sh, ld_sh0, ldc0, ldcS, sto_sh, stoc0, stocS, List.take_left', List.length_map, Nat.reduceAdd, hz0, rx_lay, psl1, r32, hfa, dc30p]); (with_reducible first | apply Tot.of (qaa rfl))))
      ((try conv => arg 2; simp (disch := first | omega | assumption) only []); refine Tot.ret ?_)
      rfl
    · simp only [if_neg hj]
      by_cases hcz : r.check = 0
      · rw [if_pos hcz]
        rw [hcz] at hch
        (repeat' first | (with_reducible first | apply Tot.of (qaa rfl) | apply Tot.of (qa4 rfl) | apply Tot.of (qak rfl) | apply Tot.of (qav rfl) | apply Tot.of (st_inl rfl) | apply Tot.of (qar rfl) | apply Tot.bql (b := false) | apply Tot.iff | (apply Tot.lss_f; omega)) | ((conv => arg 2; arg 1; simp (disch := first | omega | assumption) only [Option.map_some, Option.bind_some, qal, leaves_cons, qah, qae, qbc, Nat.zero_add, Nat.add_zero, qa1, lay_int, ofA3, packD, List.length_append, List.length_cons, List.length_nil, qa5, qa8, qba, qaw, qaj, qbe, app_one, app_nil', app_cons', ld_sh, ld_sh0, ldc0, ldcS, sto_sh, sto_sh0, stoc0, stocS, List.length_map, Nat.reduceAdd, hz0, rx_lay, rx_fold, psl1, r24, qa9, hch, dc30n]); (with_reducible first | apply Tot.of (qaa rfl) | (apply Tot.neq_t; omega))))
        ((try conv => arg 2; simp (disch := first | omega | assumption) only [qac, qan, shut_tup, qax, qao, qaq, qad, qai, canon_tup, qas, qam, qab, qaf, List.take_left', rx_shut, qa9]); refine Tot.ret ?_)
        rfl
      · rw [if_neg hcz]
        (repeat' first | (with_reducible first | apply Tot.of (qaa rfl) | apply Tot.of (qa4 rfl) | apply Tot.of (qak rfl) | apply Tot.of (qav rfl) | apply Tot.of (st_inl rfl) | apply Tot.of (qar rfl) | apply Tot.bql (b := true) | apply Tot.bql (b := false) | apply Tot.ift | apply Tot.iff | (apply Tot.lss_f; omega)) | ((conv => arg 2; arg 1; simp (disch := first | omega | assumption) only [Option.map_some, Option.bind_some, qal, leaves_cons, qah, qae, qbc, Nat.zero_add, Nat.add_zero, qa1, lay_int, ofA3, packD, List.length_append, List.length_cons, List.length_nil, qa5, qa8, qba, qaw, qaj, qbe, app_one, app_nil', app_cons', ld_sh, ld_sh0, ldc0, ldcS, sto_sh, sto_sh0, stoc0, stocS, List.length_map, Nat.reduceAdd, hz0, lay3, rx_lay, rx_fold, psl1, r24, qa9, hch, dc30n]); (with_reducible first | apply Tot.of (qaa rfl) | (apply Tot.neq_f; omega))))
        ((try conv => arg 2; simp (disch := first | omega | assumption) only [qac, qan, qbb, shut_sl, shut_agg, shut_tup, qax, qao, own_full, qaq, qad, qai, qaz, qbd, canon_tup, qas, qam, canon_nil, qab, qaf, List.take_left']); refine Tot.ret ?_)
        rfl
end Go.Vm.Rx

/- Rows as one row: slices.Concat. -/
namespace Go.Vm.Rx
open Go Go.Proofs P
set_option linter.unusedVariables false
set_option linter.unusedSimpArgs false
set_option linter.unusedSectionVars false
set_option maxRecDepth 10000
set_option maxHeartbeats 2000000
/-!PART-/
end Go.Vm.Rx

/- What the program parses a text as. -/
namespace Go.Vm.Rx
open Go Go.Proofs P
set_option linter.unusedVariables false
set_option linter.unusedSimpArgs false
set_option linter.unusedSectionVars false
set_option maxRecDepth 10000
set_option maxHeartbeats 4000000
end Go.Vm.Rx
