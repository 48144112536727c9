/- RxS29, RxS30, RxS31 in one text. -/
import Derived.Test.YtmaipfiikbcfmaaDoorRxS28
set_option linter.all false
/- What the program reads of words. -/
namespace Go.Vm.Rx
open Go Go.Proofs P
set_option linter.unusedVariables false
set_option linter.unusedSimpArgs false
set_option linter.unusedSectionVars false
set_option maxRecDepth 10000
set_option maxHeartbeats 2000000
theorem Kept3 {A L M : St} {s0 s1 s2 t0 t1 t2 : Slot} (h0 : ∀ n, t0.shut n = t0) (h1 : ∀ n, t1.shut n = t1) (h2 : ∀ n, t2.shut n = t2) :
    Kept (A ++ (s0 :: s1 :: s2 :: L)) (A ++ (t0 :: t1 :: t2 :: (L ++ M))) ↔ True := by
  refine iff_true_intro (Kept_tail (by simp) fun i hi => ?_)
  match i, hi with
  | 0, _ => exact .inr ⟨_, rfl, h0 _⟩
  | 1, _ => exact .inr ⟨_, rfl, h1 _⟩
  | 2, _ => exact .inr ⟨_, rfl, h2 _⟩
  | i + 3, hi =>
    left
    simp only [List.length_cons] at hi
    simp only [List.getElem?_cons_succ]
    rw [List.getElem?_append_left (by omega)]
theorem take3 {A L M : St} {s0 s1 s2 t0 t1 t2 : Slot} : (A ++ (t0 :: t1 :: t2 :: (L ++ M))).take (A ++ (s0 :: s1 :: s2 :: L)).length = A ++ (t0 :: t1 :: t2 :: L) := by
  have e : A ++ (t0 :: t1 :: t2 :: (L ++ M)) = (A ++ (t0 :: t1 :: t2 :: L)) ++ M := by simp
  rw [e, List.take_append_of_le_length (by simp), List.take_of_length_le (by simp)]
theorem take3' {A L M : St} {t0 t1 t2 : Slot} : (A ++ (t0 :: t1 :: t2 :: (L ++ M))).take (A.length + (L.length + 1 + 1 + 1)) = A ++ (t0 :: t1 :: t2 :: L) := by
  have := take3 (A := A) (L := L) (M := M) (s0 := .dead) (s1 := .dead) (s2 := .dead) (t0 := t0) (t1 := t1) (t2 := t2)
  simpa [List.length_append, Nat.add_assoc] using this
theorem dc30p (A L : St) (o0 o1 o2 a1 a2 : D) (x y : Int) : Dcall Tryd.prog rxA (.fn (.func 30) [] [.ref A.length 0, .ref (A.length + 1) 0, .ref (A.length + 2) 0]) [] (some (.iface 69 (.agg [.int .i64 x, .int .i64 y])))
      (A ++ (.cells [o0, a1, a2] :: .cells [o1] :: .cells [o2] :: L)) =
    some (none, A ++ (.cells [.int .i64 0, .str [], .sl .full 0 []] :: .cells [.int .i64 x] :: .cells [.int .i64 y] :: L)) := by
  rw [rd30p]
  unfold d30p
  have has : ∀ z d, assertV z (.iface 69 d) 69 true = some (.tup [d, .bool true]) := fun _ _ => rfl
  have hk := fun M => Kept3 (A := A) (L := L) (M := M) (s0 := .cells [o0, a1, a2]) (s1 := .cells [o1]) (s2 := .cells [o2]) (t0 := .cells [.int .i64 0, .str [], .sl .full 0 []]) (t1 := .cells [.int .i64 x]) (t2 := .cells [.int .i64 y]) (fun n => by simp) (fun n => by simp) (fun n => by simp)
  refine Tot.eq ?_
  (repeat' first | (with_reducible first | apply Tot.of (qa3 rfl) | apply Tot.of (st_gs rfl) | apply Tot.of (st_gk rfl) | apply Tot.bql (b := false) | apply Tot.iff) | ((conv => arg 2; arg 1; simp (disch := first | omega | assumption) only [qaf, qa4, ofCellsS, Nat.zero_add, Nat.add_zero, qa6, lay_int, List.length_append, List.length_cons, un_not, Bool.not_true, and_self, qaz, qai, app_one, qbc, ld_sh, qa9, ldc0, ldcS, sto_sh, sto_sh0, stoc0, stocS, ext0, extS, lay_ii, sameAd_ref, get_sh, List.getElem?_cons_succ, ifc_nil, has, hk, lay3]); (with_reducible first | apply Tot.of (qaa rfl) | apply Tot.of (st_guard rfl))))
  conv => arg 2; simp (disch := first | omega | assumption) only [List.length_append, List.length_cons, take3']
  exact Tot.ret rfl
theorem dc30n (a b c : D) (S : St) : Dcall Tryd.prog rxA (.fn (.func 30) [] [a, b, c]) [] none S = some (none, S) := by
  rw [rd30n]
  unfold d30n
  have hn : negIf false true = .bool true := rfl
  refine Tot.eq ?_
  (repeat' first | (with_reducible first | apply Tot.of (st_gk rfl) | apply Tot.ift) | ((conv => arg 2; arg 1; simp (disch := first | omega | assumption) only [qa2, hn]); (with_reducible first | apply Tot.of (st_guard rfl) | apply Tot.bql (b := true))))
  ((try conv => arg 2; simp (disch := first | omega | assumption) only [List.take_length]); refine Tot.ret ?_)
  rfl
theorem st_ps (A : St) (a b c : Slot) (cs cs' : List D) : A ++ [a, b, c, .cells cs] = st (A ++ [a, b, c, .cells cs']) (A.length + 3) cs := by simp [st]
theorem st_ps2 (A L : St) (a b c : Slot) (cs cs' : List D) : st (A ++ a :: b :: c :: .cells cs' :: L) (A.length + 3) cs = A ++ a :: b :: c :: .cells cs :: L := by simp [st]
theorem s13 (l : List Word) (hl : l.length ≤ 1000000) (hw : ∀ w, w ∈ l → w.t.length ≤ 100000000) (A : St) : f13 mL (Run Tryd.prog rxA) (Dcall Tryd.prog rxA) (encL 3 (l.map encW)) A = some (.ret (readD (readP l)), A) := by
  obtain ⟨x, hx⟩ := (ends hw (8 * l.length + 4)).alt 0 0 (by omega) (by omega)
  have hfc := (facts hw (8 * l.length + 4)).alt 0 0 x (by omega) hx
  unfold readP
  rw [hx]
  unfold f13
  have h2a : ∀ (y : D) (e : D), e.cell? = some e → layCells true 2 0 [y, .int .i64 0, .int .i64 0] (.agg [e, .int .i64 0]) = some [e, .int .i64 0, .int .i64 0] := fun y e he => by
    have ha : allCells [e, .int .i64 0] = true := by
      show (e.cell?.isSome && (true && true)) = true
      rw [he]; rfl
    simp [layCells, D.cellsT, D.agg?, ha, splice]
  have hbx : ∀ (e : D) (B : St), e.cell? = some e → boxO true (.agg [e, .int .i64 0, .int .i64 0]) B = some (.ref B.length 0, B ++ [.cells [e, .int .i64 0, .int .i64 0]]) := fun e B he => by
    have ha : allCells [e, .int .i64 0, .int .i64 0] = true := by
      show (e.cell?.isSome && (true && (true && true))) = true
      rw [he]; rfl
    simp [boxO, D.cellsT, D.agg?, ha, allocD]
  have hlw : layCells false 1 0 [.sl .full 0 [], .int .i64 0] (encL 3 (l.map encW)) = some [encL 3 (l.map encW), .int .i64 0] := rfl
  have h2b := fun y => h2a y (encL 3 (l.map encW)) rfl
  have hbb := fun B => hbx (encL 3 (l.map encW)) B rfl
  refine Tot.eq ?_
  (repeat' first | (with_reducible first | apply Tot.of (qaa rfl) | apply Tot.of (st_bind rfl) | apply Tot.of (qba rfl)) | ((conv => arg 2; arg 1; simp (disch := first | omega | assumption) only [Nat.zero_add, qa6, List.length_append, List.length_cons, List.length_nil, qai, app_one, qbj, qbc, Nat.reduceAdd, hlw, h2b, hbb]); (with_reducible first | apply Tot.of (qaa rfl))))
  rw [st_ps A _ _ _ _ (psC l 0 0)]
  conv => arg 2; arg 1; simp (disch := first | omega | assumption) only [qbg, r31]
  have hq := (progSpec hl hw (8 * l.length + 4)).alt (A ++ [.cells [.int .i64 0, .str [], .sl .full 0 []], .cells [.int .i64 0], .cells [.int .i64 0], .cells (psC l 0 0)]) (A.length + 3) 0 0 x (by simp) (by omega) (by omega) hx
  refine Tot.bn hq fun z hz => ?_
  rcases x with ⟨a, c⟩ | ⟨r, j⟩
  · obtain ⟨i', o', rfl⟩ := hz
    simp only [st_ps2]
    (repeat' first | (with_reducible first | apply Tot.of (st_pan rfl) | apply Tot.of (qak rfl)) | ((conv => arg 2; arg 1; simp (disch := first | omega | assumption) only [Option.map_some, Option.bind_some, qal, leaves_cons, qa4, ofA3, packD, qaz, ld_sh, qa9, ldc0, ldcS, dc30p]); (with_reducible first | apply Tot.of (qaa rfl))))
    ((try conv => arg 2; simp (disch := first | omega | assumption) only [qac, qao, shut_strD, shut_sl, shut_agg, shut_tup, qay, qar, own_full, qaj, qad, qag, qam, canon_agg, canon_tup, qat, qan, canon_nil, qab, qae, List.take_left']); refine Tot.ret ?_)
    rfl
  · cases (show z = _ from hz)
    have g : Good l.length 0 r j := hfc
    have g1 := g.size; have g2 := g.le
    have hch := s24 r (Rx.Nm.ok r g.nm (by omega))
    have hz0 : ((0:Nat):Int) = 0 := rfl
    have hfa := fun a b c L => s32 (A ++ a :: b :: c :: .cells (psC l 0 0) :: L) (A.length + 3) l j 0 90 (by simp)
    simp only [st_ps2] at hfa ⊢
    by_cases hj : j < l.length
    · simp only [if_pos hj]
      (repeat' first | (with_reducible first | apply Tot.of (qaq rfl) | apply Tot.of (qba rfl) | apply Tot.of (qa3 rfl) | apply Tot.of (qah rfl) | apply Tot.of (qav rfl) | apply Tot.of (qas rfl) | apply Tot.of (st_pan rfl) | apply Tot.of (st_inr rfl) | apply Tot.of (qa0 rfl) | apply Tot.bql (b := true) | apply Tot.ift | (apply Tot.lss_t; omega)) | ((conv => arg 2; arg 1; simp (disch := first | omega | assumption) only [qac, Option.map_some, Option.bind_some, qao, shut_strD, shut_sl, shut_agg, shut_tup, qay, qar, own_full, qaj, qad, qal, leaves_cons, qa1, qaf, qa4, Nat.zero_add, Nat.add_zero, qa6, ofA3, packD, List.length_append, List.length_cons, List.length_nil, qaz, qai, qag, qam, qbg, canon_agg, canon_tup, qat, qan, canon_nil, qab, qae, len_encL, app_one, qbj, qbc, ld_sh, qa9, ldc0, ldcS, sto_sh, stoc0, stocS, List.take_left', List.length_map, Nat.reduceAdd, hz0, rx_lay, psl1, r32, hfa, dc30p]); (with_reducible first | apply Tot.of (qaa rfl))))
      ((try conv => arg 2; simp (disch := first | omega | assumption) only []); refine Tot.ret ?_)
      rfl
    · simp only [if_neg hj]
      by_cases hcz : r.check = 0
      · rw [if_pos hcz]
        rw [hcz] at hch
        (repeat' first | (with_reducible first | apply Tot.of (qaa rfl) | apply Tot.of (qa3 rfl) | apply Tot.of (qah rfl) | apply Tot.of (qas rfl) | apply Tot.of (st_inl rfl) | apply Tot.of (qak rfl) | apply Tot.bql (b := false) | apply Tot.iff | (apply Tot.lss_f; omega)) | ((conv => arg 2; arg 1; simp (disch := first | omega | assumption) only [Option.map_some, Option.bind_some, qal, leaves_cons, qa1, qaf, qa4, Nat.zero_add, Nat.add_zero, qa6, lay_int, ofA3, packD, List.length_append, List.length_cons, List.length_nil, qa5, qbb, qbe, qaz, qai, len_encL, app_one, qbj, qbc, ld_sh, qa9, ldc0, ldcS, sto_sh, sto_sh0, stoc0, stocS, List.length_map, Nat.reduceAdd, hz0, rx_lay, qbd, psl1, r24, qa7, hch, dc30n]); (with_reducible first | apply Tot.of (qaa rfl) | (apply Tot.neq_t; omega))))
        ((try conv => arg 2; simp (disch := first | omega | assumption) only [qac, qao, shut_tup, qay, qar, qaj, qad, qag, canon_tup, qat, qan, qab, qae, List.take_left', rx_shut, qa7]); refine Tot.ret ?_)
        rfl
      · rw [if_neg hcz]
        (repeat' first | (with_reducible first | apply Tot.of (qaa rfl) | apply Tot.of (qa3 rfl) | apply Tot.of (qah rfl) | apply Tot.of (qas rfl) | apply Tot.of (st_inl rfl) | apply Tot.of (qak rfl) | apply Tot.bql (b := true) | apply Tot.bql (b := false) | apply Tot.ift | apply Tot.iff | (apply Tot.lss_f; omega)) | ((conv => arg 2; arg 1; simp (disch := first | omega | assumption) only [Option.map_some, Option.bind_some, qal, leaves_cons, qa1, qaf, qa4, Nat.zero_add, Nat.add_zero, qa6, lay_int, ofA3, packD, List.length_append, List.length_cons, List.length_nil, qa5, qbb, qbe, qaz, qai, len_encL, app_one, qbj, qbc, ld_sh, qa9, ldc0, ldcS, sto_sh, sto_sh0, stoc0, stocS, List.length_map, Nat.reduceAdd, hz0, lay3, rx_lay, qbd, psl1, r24, qa7, hch, dc30n]); (with_reducible first | apply Tot.of (qaa rfl) | (apply Tot.neq_f; omega))))
        ((try conv => arg 2; simp (disch := first | omega | assumption) only [qac, qao, shut_strD, shut_sl, shut_agg, shut_tup, qay, qar, own_full, qaj, qad, qag, qam, canon_agg, canon_tup, qat, qan, canon_nil, qab, qae, List.take_left']); refine Tot.ret ?_)
        rfl
end Go.Vm.Rx

/- Rows as one row: slices.Concat. -/
namespace Go.Vm.Rx
open Go Go.Proofs P
set_option linter.unusedVariables false
set_option linter.unusedSimpArgs false
set_option linter.unusedSectionVars false
set_option maxRecDepth 10000
set_option maxHeartbeats 2000000
theorem acc_leave {b : Option Nat} {A : St} {n : Nat} {ds : List D} (h : PlainL ds) : leaveD RetK.own A (.ret (accD b A.length n ds)) (accA b A ds) = some (.ret (accD b A.length n ds), accA b A ds) := by
  cases b with
  | none =>
    have hk : Kept A (A ++ [.tok ds.length]) := (accA_Kept none A ds).2 trivial
    simp [leaveD, accD, accA, guardP, hk, h.shut]
  | some e =>
    have hk : Kept A A := (accA_Kept (some 0) A ds).2 trivial
    simp [leaveD, accD, accA, guardP, hk, Res.shut, h.shut, Own.shut]
theorem bn_id {α : Type} (x : Option α) : (bn x fun a => some a) = x := by cases x <;> rfl
/-!PART-/
theorem s27_loop (A : St) (rows : List (List Word)) (hl : rows.flatten.length ≤ 1000000) (hrl : rows.length ≤ 100000000) : ∀ (t : List (List Word)) (i : Nat) (acc : List Word) (b : Option Nat), rows.drop i = t → i ≤ rows.length → acc ++ t.flatten = rows.flatten → AccOk b 3 (acc.map encW) →
    ∃ b', AccOk b' 3 (rows.flatten.map encW) ∧ iterK (f27_s0 mL (Run Tryd.prog rxA) (Dcall Tryd.prog rxA) A) (Env.mk (sp [(6, accD b A.length 3 (acc.map encW)), (18, encL 1 (rows.map encRow)), (0, .int .i64 (rows.length : Nat)), (0, .int .i64 (i : Nat))] 8) []) (accA b A (acc.map encW)) =
      some (.ret (accD b' A.length 3 (rows.flatten.map encW)), accA b' A (rows.flatten.map encW)) := by
  intro t
  induction t with
  | nil =>
    intro i acc b ht hi hacc hb
    have h1 := drop_len ht
    simp only [List.flatten_nil, List.append_nil] at hacc
    subst hacc
    refine ⟨b, hb, ?_⟩
    have hlv := acc_leave (b := b) (A := A) (n := 3) (plainWs rows.flatten)
    refine Tot.eq (Tot.iter ?_)
    conv => arg 2; arg 1; unfold f27_s0
    (repeat' first | (with_reducible first | apply Tot.of (qaq rfl) | apply Tot.of (qba rfl) | apply Tot.of (qah rfl) | apply Tot.of (st_inr rfl) | apply Tot.of (qa0 rfl) | apply Tot.bql (b := false) | apply Tot.iff) | ((conv => arg 2; arg 1; simp (disch := first | omega | assumption) only [Option.map_some, qal, qa5, qbb, qbe, hlv]); (with_reducible first | apply Tot.of (qaa rfl) | (apply Tot.lss_f; omega))))
    all_goals (((try conv => arg 2; simp (disch := first | omega | assumption) only []); refine Tot.ret ?_); rfl)
  | cons x t ih =>
    intro i acc b ht hi hacc hb
    have h1 := drop_lt ht
    have hx := idx_drop (f := encRow) ht 1 false .i64
    have hlen := congrArg List.length hacc
    simp only [List.length_append, List.flatten_cons] at hlen
    rw [List.flatten_cons, ← List.append_assoc] at hacc
    have hap := app_accL (A := A) (w := 32) (new := x.map encW) hb (by simp; omega) (by omega)
    simp only [← List.map_append] at hap
    obtain ⟨b', hb', hq⟩ := ih (i + 1) (acc ++ x) (accNext b 3 (x.map encW)) (drop_succ ht) (by omega) hacc (by rw [List.map_append]; exact hb.next _)
    simp only [Int.natCast_add, Int.natCast_one] at hq
    refine ⟨b', hb', ?_⟩
    have hc : (encRow x).cellsT false = some [encRow x] := rfl
    have hf : ofCells false [encRow x] 0 1 = some (encRow x) := rfl
    have he : encRow x = encL 3 (x.map encW) := rfl
    refine Tot.eq (Tot.iter ?_)
    conv => arg 2; arg 1; unfold f27_s0
    (repeat' first | (with_reducible first | apply Tot.of (qaa rfl) | apply Tot.of (qaq rfl) | apply Tot.of (qa3 rfl) | apply Tot.of (qah rfl) | apply Tot.of (st_inl rfl) | apply Tot.bql (b := true) | apply Tot.ift) | ((conv => arg 2; arg 1; simp (disch := first | omega | assumption) only [binO_add, qbi, qbf, qa4, qa5, qbb, qbe, qaz, qai, cell_encL, hx, he, hap]); (with_reducible first | apply Tot.of (qaa rfl) | (apply Tot.lss_t; omega))))
    (refine Tot.of_eq ?_; (conv => lhs; simp (disch := first | omega | assumption) only [qa5, qbb, qbe]); exact hq)
theorem s27_sum (A : St) (rows : List (List Word)) (hl : rows.flatten.length ≤ 1000000) (hrl : rows.length ≤ 100000000) : ∀ (t : List (List Word)) (i n : Nat), rows.drop i = t → i ≤ rows.length → n + t.flatten.length = rows.flatten.length →
    ∃ b', AccOk b' 3 (rows.flatten.map encW) ∧ iterK (f27_s1 mL (Run Tryd.prog rxA) (Dcall Tryd.prog rxA) A) (Env.mk (sp [(0, encL 1 (rows.map encRow)), (2, .int .i64 (n : Nat)), (5, encL 1 (rows.map encRow)), (0, .int .i64 (rows.length : Nat)), (0, .int .i64 (i : Nat))] 24) []) A =
      some (.ret (accD b' A.length 3 (rows.flatten.map encW)), accA b' A (rows.flatten.map encW)) := by
  intro t
  induction t with
  | nil =>
    intro i n ht hi hn
    have h1 := drop_len ht
    simp only [List.flatten_nil, List.length_nil, Nat.add_zero] at hn
    subst hn
    by_cases h0 : rows.flatten.length = 0
    · obtain ⟨b', hb', hq⟩ := s27_loop A rows hl hrl rows 0 [] (some 0) rfl (by omega) (by simp) (.nil 3)
      refine ⟨b', hb', ?_⟩
      have hg : Run Tryd.prog rxA 49 [.sl .full 0 [], .int .i64 (rows.flatten.length : Nat)] A = some (.ret (.sl .full 0 []), A) := by
        rw [Run_ext _ _ (by decide) rfl, h0]; rfl
      refine Tot.eq (Tot.iter ?_)
      conv => arg 2; arg 1; unfold f27_s1
      (repeat' first | (with_reducible first | apply Tot.of (qaq rfl) | apply Tot.of (qba rfl) | apply Tot.of (qah rfl) | apply Tot.of (qav rfl) | apply Tot.of (qas rfl) | apply Tot.of (st_bnit rfl) | apply Tot.bql (b := false) | apply Tot.iff) | ((conv => arg 2; arg 1; simp (disch := first | omega | assumption) only [qa5, qbb, qbe, len_encL, List.length_map, hg]); (with_reducible first | apply Tot.of (qaa rfl) | (apply Tot.lss_f; omega))))
      (refine Tot.of_eq ?_; (conv => lhs; simp (disch := first | omega | assumption) only [Sum.elim_inr, qa5, qai]); rw [bn_id]; exact hq)
    · obtain ⟨b', hb', hq⟩ := s27_loop A rows hl hrl rows 0 [] none rfl (by omega) (by simp) (.own _ _)
      refine ⟨b', hb', ?_⟩
      have hg : Run Tryd.prog rxA 49 [.sl .full 0 [], .int .i64 (rows.flatten.length : Nat)] A = some (.ret (.sl (.own A.length 0) 3 []), A ++ [.tok 0]) := by
        rw [Run_ext _ _ (by decide) rfl]
        show (if ((rows.flatten.length : Nat) : Int) < 0 then none else if ((rows.flatten.length : Nat) : Int) = 0 then _ else cond (roomOk ((rows.flatten.length : Nat) : Int).toNat 32) _ _) = _
        have hro : roomOk ((rows.flatten.length : Nat) : Int).toNat 32 = true := by
          simp only [roomOk, decide_eq_true_eq, Int.toNat_natCast]; omega
        rw [if_neg (by omega), if_neg (by omega), hro]; rfl
      refine Tot.eq (Tot.iter ?_)
      conv => arg 2; arg 1; unfold f27_s1
      (repeat' first | (with_reducible first | apply Tot.of (qaq rfl) | apply Tot.of (qba rfl) | apply Tot.of (qah rfl) | apply Tot.of (qav rfl) | apply Tot.of (qas rfl) | apply Tot.of (st_bnit rfl) | apply Tot.bql (b := false) | apply Tot.iff) | ((conv => arg 2; arg 1; simp (disch := first | omega | assumption) only [qa5, qbb, qbe, len_encL, List.length_map, hg]); (with_reducible first | apply Tot.of (qaa rfl) | (apply Tot.lss_f; omega))))
      (refine Tot.of_eq ?_; (conv => lhs; simp (disch := first | omega | assumption) only [Sum.elim_inr, qa5, qai]); rw [bn_id]; exact hq)
  | cons x t ih =>
    intro i n ht hi hn
    have h1 := drop_lt ht
    have hx := idx_drop (f := encRow) ht 1 false .i64
    have hc : (encRow x).cellsT false = some [encRow x] := rfl
    have hf : ofCells false [encRow x] 0 1 = some (encRow x) := rfl
    simp only [List.flatten_cons, List.length_append] at hn
    obtain ⟨b', hb', hq⟩ := ih (i + 1) (n + x.length) (drop_succ ht) (by omega) (by omega)
    simp only [Int.natCast_add, Int.natCast_one] at hq
    refine ⟨b', hb', ?_⟩
    refine Tot.eq (Tot.iter ?_)
    conv => arg 2; arg 1; unfold f27_s1
    (repeat' first | (with_reducible first | apply Tot.of (qaa rfl) | apply Tot.of (qaq rfl) | apply Tot.of (qa3 rfl) | apply Tot.of (qah rfl) | apply Tot.of (st_bnsum rfl) | apply Tot.of (st_inl rfl) | apply Tot.bql (b := true) | apply Tot.bql (b := false) | apply Tot.ift | apply Tot.iff) | ((conv => arg 2; arg 1; simp (disch := first | omega | assumption) only [binO_add, qbi, qbf, qa5, qbb, qbe, qaz, qai, hx, hc, hf, len_row]); (with_reducible first | apply Tot.of (qaa rfl) | (apply Tot.lss_t; omega) | (apply Tot.lss_f; omega))))
    (refine Tot.of_eq ?_; (conv => lhs; simp (disch := first | omega | assumption) only [qa5, qbb, qbe]); exact hq)
theorem s27 (A : St) (rows : List (List Word)) (hl : rows.flatten.length ≤ 1000000) (hrl : rows.length ≤ 100000000) :
    ∃ b', AccOk b' 3 (rows.flatten.map encW) ∧ f27 mL (Run Tryd.prog rxA) (Dcall Tryd.prog rxA) (encL 1 (rows.map encRow)) A = some (.ret (accD b' A.length 3 (rows.flatten.map encW)), accA b' A (rows.flatten.map encW)) := by
  obtain ⟨b', hb', hq⟩ := s27_sum A rows hl hrl rows 0 0 rfl (by omega) (by omega)
  refine ⟨b', hb', ?_⟩
  unfold f27
  refine Tot.eq ?_
  (repeat' first | (with_reducible first | apply Tot.of (st_it rfl)) | ((conv => arg 2; arg 1; simp (disch := first | omega | assumption) only [len_encL, List.length_map]); (with_reducible first | apply Tot.of (qaa rfl))))
  (refine Tot.of_eq ?_; (conv => lhs; simp (disch := first | omega | assumption) only [qai]); exact hq)
end Go.Vm.Rx

/- What the program parses a text as. -/
namespace Go.Vm.Rx
open Go Go.Proofs P
set_option linter.unusedVariables false
set_option linter.unusedSimpArgs false
set_option linter.unusedSectionVars false
set_option maxRecDepth 10000
set_option maxHeartbeats 4000000
theorem s9_ok (A : St) (s : Str) (hs : s.length ≤ 1000000) (rows : List (List Word)) (hx : textP s (.ok rows)) : f9 mL (Run Tryd.prog rxA) (Dcall Tryd.prog rxA) (.str s) A = some (.ret (parseD (parseP (.ok rows))), A) := by
  have hlin := fun A => s26 s (by omega) _ hx A
  simp only [linesRes, List.nil_append] at hlin
  obtain ⟨hl, hrl, hw⟩ := textP_ok hx
  have hw' : ∀ w, w ∈ rows.flatten → w.t.length ≤ 100000000 := fun w hm => by have := (hw w hm).2.2.2.1; omega
  have hrd := fun A => s13 rows.flatten (by omega) hw' A
  obtain ⟨b, hb, hcat⟩ := s27 (A ++ [.cells [.int .i64 0, .str [], .sl .full 0 []]]) rows (by omega) (by omega)
  have hcc : (encL 1 (rows.map encRow)).canon = encL 1 (rows.map encRow) := (encL_plain (plainRows rows) 1).canon
  have hcn := acc_canon (c := (A ++ [Slot.cells [.int .i64 0, .str [], .sl .full 0 []]]).length) hb (plainWs rows.flatten)
  have hat := readP_at hw'
  have hno := readP_no (l := rows.flatten)
  have hres : parseP (.ok rows) = ((readP rows.flatten).1, (atP rows.flatten (readP rows.flatten).2.1 (readP rows.flatten).2.2).1, (atP rows.flatten (readP rows.flatten).2.1 (readP rows.flatten).2.2).2, (readP rows.flatten).2.2) := rfl
  rw [hres]
  have hx := fun i h g k => idx_accD (c := (A ++ [Slot.cells [.int .i64 0, .str [], .sl .full 0 []]]).length) hb (i := i) h g k
  revert hl hw hrd hcn hat hno hx hb hcat
  generalize rows.flatten = l
  intro hl hw hrd hb hcat hcn hat hno hx
  simp only [List.length_append, List.length_cons, List.length_nil, Nat.zero_add] at hcat hcn hx
  generalize readP l = q at hrd hat hno ⊢
  obtain ⟨r, at_, f⟩ := q
  unfold readD at hrd
  dsimp only at hrd hat hno ⊢
  have hlm : ((l.map encW).length : Int) = (l.length : Int) := by simp
  have hxn : encRx Rx.no = .agg [.int .i64 0, .str [], .sl .sh 0 []] := rfl
  unfold f9
  refine Tot.eq ?_
  by_cases h0 : f = 0
  · subst h0
    cases b <;> simp only [accA, accD] at hcn hx hcat ⊢
    all_goals ((repeat' first | (with_reducible first | apply Tot.of (qaa rfl) | apply Tot.of (st_bind rfl) | apply Tot.of (qba rfl) | apply Tot.of (qa3 rfl) | apply Tot.of (qas rfl) | apply Tot.of (qak rfl) | apply Tot.bql (b := true) | apply Tot.bql (b := false) | apply Tot.ift | apply Tot.iff) | ((conv => arg 2; arg 1; simp (disch := first | omega | assumption) only [Nat.zero_add, qa6, ofA3, List.length_append, List.length_cons, List.length_nil, qaz, qai, qam, app_one, qbj, qbc, ld_sh, qa9, ldc0, ldcS, sto_sh, sto_sh0, stoc0, stocS, List.length_map, ext0, extS, Nat.reduceAdd, rx_lay, qbd, r26, hlin, r27, hcc, hcat, r13, hcn, hrd]); (with_reducible first | apply Tot.of (qaa rfl) | (apply Tot.eql_t; omega) | (apply Tot.neq_t; omega)))); ((try conv => arg 2; simp (disch := first | omega | assumption) only [qac, qao, shut_tup, qay, qar, qaj, qad, packD, qai, qag, canon_tup, qat, qan, qab, qae, List.take_left', rx_shut, qa7]); refine Tot.ret ?_); rfl)
  · cases hno h0
    by_cases h4 : l.length = 0
    · cases b <;> simp only [accA, accD] at hcn hx hcat ⊢
      all_goals ((repeat' first | (with_reducible first | apply Tot.of (qaa rfl) | apply Tot.of (st_bind rfl) | apply Tot.of (qba rfl) | apply Tot.of (qa3 rfl) | apply Tot.of (qah rfl) | apply Tot.of (qas rfl) | apply Tot.of (qak rfl) | apply Tot.gbl (b := true) | apply Tot.gbl (b := false) | apply Tot.gbn | apply Tot.bql (b := true) | apply Tot.bql (b := false) | apply Tot.ift | apply Tot.iff | apply Tot.iftt | apply Tot.ifft | apply Tot.iftf | apply Tot.ifff) | ((conv => arg 2; arg 1; simp (disch := first | omega | assumption) only [qa8, qaw, lenSl_sl, Nat.zero_add, qa6, ofA3, List.length_append, List.length_cons, List.length_nil, qaz, qai, qam, app_one, qbj, qbc, qa9, ldc0, sto_sh, sto_sh0, stoc0, stocS, List.length_map, ext0, extS, Nat.reduceAdd, lay3, rx_lay, r26, hlin, r27, hcc, hcat, r13, hcn, hrd]); (with_reducible first | apply Tot.of (qaa rfl) | apply Tot.bql (b := true) | apply Tot.bql (b := false) | (apply Tot.eql_t; omega) | (apply Tot.eql_f; omega) | (apply Tot.eql; all_goals intro hsp) | (apply Tot.neq_t; omega)))))
      all_goals (((try conv => arg 2; simp (disch := first | omega | assumption) only [qac, qao, shut_strD, shut_sl, shut_agg, shut_tup, qay, qar, own_full, qaj, qad, packD, qai, qag, qam, canon_agg, canon_tup, qat, qan, canon_nil, qab, qae, List.take_left']); refine Tot.ret ?_))
      all_goals (unfold parseD atP; (repeat' split) <;> first | rfl | (exfalso; omega))
    · by_cases h5 : at_ < l.length
      · have h6 := hx at_ h5
        have hw5 := hw l[at_] (List.getElem_mem h5)
        have hgd : l.getD at_ default = l[at_] := by rw [List.getD_eq_getElem?_getD, List.getElem?_eq_getElem h5]; rfl
        generalize l[at_] = w at h6 hw5 hgd
        cases b <;> simp only [accA, accD] at hcn h6 hcat ⊢
        all_goals ((repeat' first | (with_reducible first | apply Tot.of (qaa rfl) | apply Tot.of (st_bind rfl) | apply Tot.of (qba rfl) | apply Tot.of (qa3 rfl) | apply Tot.of (qah rfl) | apply Tot.of (qas rfl) | apply Tot.of (st_gs rfl) | apply Tot.of (qak rfl) | apply Tot.gbl (b := true) | apply Tot.gbl (b := false) | apply Tot.gbn | apply Tot.bql (b := true) | apply Tot.bql (b := false) | apply Tot.ift | apply Tot.iff | apply Tot.iftt | apply Tot.ifft | apply Tot.iftf | apply Tot.ifff | (apply Tot.lss_t; omega)) | ((conv => arg 2; arg 1; simp (disch := first | omega | assumption) only [qa8, qaw, fieldAddr_peek, lenSl_sl, qbf, qa4, List.drop_zero, List.drop_succ_cons, Nat.zero_add, qa6, ofA3, List.length_append, List.length_cons, List.length_nil, sameAd_refl, and_self, qaz, qai, qam, app_one, qbj, qbc, qa9, ldc0, sto_sh, sto_sh0, stoc0, stocS, List.length_map, ext0, extS, Nat.reduceAdd, lay3, rx_lay, r26, hlin, r27, hcc, hcat, r13, hcn, hrd, h6, cellW, cellsW]); (with_reducible first | apply Tot.of (qaa rfl) | apply Tot.of (st_guard rfl) | apply Tot.bql (b := true) | apply Tot.bql (b := false) | (apply Tot.eql_f; omega) | (apply Tot.eql; all_goals intro hsp) | (apply Tot.neq_t; omega)))))
        all_goals (((try conv => arg 2; simp (disch := first | omega | assumption) only [qac, qao, shut_strD, shut_sl, shut_agg, shut_tup, qay, qar, own_full, qaj, qad, packD, qai, qag, qam, canon_agg, canon_tup, qat, qan, canon_nil, qab, qae, List.take_left']); refine Tot.ret ?_))
        all_goals (unfold parseD atP; rw [hgd]; (repeat' split) <;> first | rfl | (exfalso; omega))
      · have h6 := hx (l.length - 1) (by omega)
        have hi : ((l.length - 1 : Nat) : Int) = (l.length : Int) - 1 := by omega
        simp only [hi] at h6
        have h8 : l.length - 1 < l.length := by omega
        have hw5 := hw l[l.length - 1] (List.getElem_mem h8)
        have hgd : l.getD (l.length - 1) default = l[l.length - 1] := by rw [List.getD_eq_getElem?_getD, List.getElem?_eq_getElem h8]; rfl
        generalize l[l.length - 1] = w at h6 hw5 hgd
        obtain ⟨⟨g1, g2⟩, g3, g4, g5, g6⟩ := hw5
        have hlw : ∀ a b c, layCells true 3 0 [a, b, c] (encW w) = some [.str w.t, .int .i64 w.line, .int .i64 w.col] := fun a b c => rfl
        have hcw : ofCells true [D.str w.t, .int .i64 w.line, .int .i64 w.col] 0 3 = some (encW w) := rfl
        cases b <;> simp only [accA, accD] at hcn h6 hcat ⊢
        all_goals ((repeat' first | (with_reducible first | apply Tot.of (qaa rfl) | apply Tot.of (st_bind rfl) | apply Tot.of (qba rfl) | apply Tot.of (qa3 rfl) | apply Tot.of (qah rfl) | apply Tot.of (qas rfl) | apply Tot.of (st_gs rfl) | apply Tot.of (qak rfl) | apply Tot.gbl (b := true) | apply Tot.gbl (b := false) | apply Tot.gbn | apply Tot.bql (b := true) | apply Tot.bql (b := false) | apply Tot.ift | apply Tot.iff | apply Tot.iftt | apply Tot.ifft | apply Tot.iftf | apply Tot.ifff | (apply Tot.lss_f; omega)) | ((conv => arg 2; arg 1; simp (disch := first | omega | assumption) only [qa8, qaw, binO_add, binO_sub, qbi, qaf, lenSl_sl, qbk, qbf, qa4, ofCellsS, Nat.zero_add, Nat.add_zero, qa6, ofA3, List.length_append, List.length_cons, List.length_nil, sameAd_refl, and_self, qaz, qai, qam, app_one, qbj, qbc, ld_sh, qa9, ldc0, ldcS, sto_sh, sto_sh0, stoc0, stocS, List.length_map, ext0, extS, Nat.reduceAdd, lay3, rx_lay, r26, hlin, r27, hcc, hcat, r13, hcn, hrd, h6, cellW, cellsW, hlw, hcw]); (with_reducible first | apply Tot.of (qaa rfl) | apply Tot.of (st_guard rfl) | apply Tot.bql (b := true) | apply Tot.bql (b := false) | (apply Tot.eql_f; omega) | (apply Tot.eql; all_goals intro hsp) | (apply Tot.neq_t; omega)))))
        all_goals (((try conv => arg 2; simp (disch := first | omega | assumption) only [qac, qao, shut_strD, shut_sl, shut_agg, shut_tup, qay, qar, own_full, qaj, qad, packD, qai, qag, qam, canon_agg, canon_tup, qat, qan, canon_nil, qab, qae, List.take_left']); refine Tot.ret ?_))
        all_goals (unfold parseD atP; rw [hgd]; (repeat' split) <;> first | rfl | (exfalso; omega))
theorem s9 (s : Str) (hs : s.length ≤ 1000000) (x : Except (Int × Int) (List (List Word))) (hx : textP s x) (A : St) : f9 mL (Run Tryd.prog rxA) (Dcall Tryd.prog rxA) (.str s) A = some (.ret (parseD (parseP x)), A) := by
  rcases x with ⟨p, c⟩ | rows
  · have hln := fun A => s26 s (by omega) _ hx A
    simp only [linesRes] at hln
    unfold f9
    refine Tot.eq ?_
    (repeat' first | (with_reducible first | apply Tot.of (qaa rfl) | apply Tot.of (st_bind rfl) | apply Tot.of (qba rfl) | apply Tot.of (qa3 rfl) | apply Tot.of (qas rfl) | apply Tot.of (qak rfl) | apply Tot.bql (b := true) | apply Tot.ift) | ((conv => arg 2; arg 1; simp (disch := first | omega | assumption) only [qa6, ofA3, qaz, qai, qam, qa9, ldc0, sto_sh0, stoc0, ext0, extS, lay3, r26, hln]); (with_reducible first | apply Tot.of (qaa rfl) | (apply Tot.neq_f; omega))))
    ((try conv => arg 2; simp (disch := first | omega | assumption) only [qac, qao, shut_strD, shut_sl, shut_agg, shut_tup, qay, qar, own_full, qaj, qad, packD, qag, qam, canon_agg, canon_tup, qat, qan, canon_nil, qab, qae, List.take_left']); refine Tot.ret ?_)
    rfl
  · exact s9_ok A s hs rows hx
end Go.Vm.Rx
