/- What the marks mean: law 5. -/
import Derived.Test.YtmaipfiikbcfmaaDoorRxS49
import Derived.Test.YtmaipfiikbcfmaaDoorRxS14
set_option linter.all false
namespace Go.Vm.Rx
open Go Go.Proofs P
set_option linter.unusedVariables false
set_option linter.unusedSimpArgs false
set_option linter.unusedSectionVars false
set_option maxRecDepth 10000
set_option maxHeartbeats 4000000
mutual
theorem right_Nm : ∀ r : P.Rx, r.right = true → r.Nm
  | .mk op nm ks, h => by
    unfold Rx.right at h
    simp only [Bool.and_eq_true] at h
    obtain ⟨h1, h2⟩ := h
    have h3 := rights_Nms ks h2
    unfold Rx.Nm
    rcases nodeOk_cases h1 with ⟨h0, hnm, hks⟩ | ⟨h0, hnm, hks⟩ | ⟨h0, hnm, _, _⟩ | ⟨h0, hnm, g, _⟩ | ⟨h0, hnm, _⟩
    · obtain ⟨c, r, rfl, hl, _⟩ := name_chars hnm
      refine ⟨by simp only [List.length_cons]; omega, fun e => by omega, h3⟩
    · refine ⟨by rw [hnm]; simp, fun e => by omega, h3⟩
    · refine ⟨by rw [hnm]; simp, fun e => by omega, h3⟩
    · refine ⟨by rw [hnm]; simp, fun e => g, h3⟩
    · refine ⟨by rw [hnm]; simp, fun e => by omega, h3⟩
theorem rights_Nms : ∀ ks : List P.Rx, Rx.rights ks = true → Rx.Nms ks
  | [], _ => trivial
  | k :: ks, h => by
    simp only [Rx.rights, Bool.and_eq_true] at h
    exact ⟨right_Nm k h.1, rights_Nms ks h.2⟩
end
theorem one_Nm {op : Int} {r : P.Rx} (h : op ≠ 5) (hr : r.Nm) : (P.Rx.mk op [] [r]).Nm := ⟨by simp, fun e => absurd e h, hr, trivial⟩
theorem one_size (op : Int) (r : P.Rx) : (P.Rx.mk op [] [r]).size = r.size + 1 := by simp [Rx.size, Rx.sizes]
theorem two_Nms {a b : P.Rx} (ha : a.Nm) (hb : b.Nm) : Rx.Nms [a, b] := ⟨ha, hb, trivial⟩
theorem join4_Nm {a b : P.Rx} (ha : a.Nm) (hb : b.Nm) : (joinR 4 [a, b]).Nm ∧ (joinR 4 [a, b]).size ≤ a.size + b.size + 1 := by
  rw [joinR_4]
  have := join_size (op := 4) (l := [a, b]) (by simp)
  simp only [Rx.sizes, List.length_cons, List.length_nil] at this
  exact ⟨join_Nm (by simp) (two_Nms ha hb), by omega⟩
theorem join5_Nm {a b : P.Rx} (ha : a.Nm) (hb : b.Nm) : (joinR 5 [a, b]).Nm ∧ (joinR 5 [a, b]).size ≤ a.size + b.size + 1 := by
  rw [joinR_5 (by simp) (two_Nms ha hb)]
  have := join_size (op := 5) (l := [a, b]) (by simp)
  simp only [Rx.sizes, List.length_cons, List.length_nil] at this
  exact ⟨join_Nm (by simp) (two_Nms ha hb), by omega⟩
theorem joined_two {op : Int} {a b : P.Rx} (hs : a.size + b.size ≤ 1000000) (A : St) : f19 mL (Run Tryd.prog rxA) (Dcall Tryd.prog rxA) (.int .i64 op) (encL 3 ([a, b].map encRx)) A = some (.ret (encRx (joinR op [a, b])), A) := by
  refine s19 A op [a, b] (by simp) ?_
  have := flat_len op [a, b]
  simp only [Rx.sizes] at this
  omega
theorem sp_two (a b : P.Rx) : sliceParts 3 true 0 [(0, encRx a), (1, encRx b)] = some [encRx a, encRx b] := by
  simp [sliceParts, rx_cell]
theorem sp_two4 (a : P.Rx) (o : Own) (n : Nat) : sliceParts 3 true 0 [(0, encRx a), (1, .agg [.int .i64 4, .str [], .sl o n []])] = some [encRx a, .agg [.int .i64 4, .str [], .sl o n []]] := by
  simp [sliceParts, rx_cell]
  rfl
theorem sp_one (a : P.Rx) : sliceParts 3 true 0 [(0, encRx a)] = some [encRx a] := by simp [sliceParts, rx_cell]
theorem canon_two (a b : P.Rx) : (D.sl .full 3 [encRx a, encRx b]).canon = encL 3 ([a, b].map encRx) := by
  simp [D.canon, D.canonL, rx_canon, encL]
theorem canon_two4 (a : P.Rx) (o : Own) (n : Nat) : (D.sl .full 3 [encRx a, .agg [.int .i64 4, .str [], .sl o n []]]).canon = encL 3 ([a, .mk 4 [] []].map encRx) := by
  have : encRx (.mk 4 [] []) = .agg [.int .i64 4, .str [], .sl .sh 0 []] := rfl
  simp [D.canon, D.canonL, rx_canon, encL, this]
theorem s17 (op : Int) (r : P.Rx) (A : St) : f17 mL (Run Tryd.prog rxA) (Dcall Tryd.prog rxA) (.int .i64 op) (encRx r) A = some (.ret (encRx (.mk op [] [r])), A) := by
  have hc : encRx (.mk op [] [r]) = .agg [.int .i64 op, .str [], .sl .sh 3 [encRx r]] := rfl
  have hl : ∀ a b c, layCells true 3 0 [a, b, c] (.agg [.int .i64 op, .str [], .sl .full 3 [encRx r]]) = some [.int .i64 op, .str [], .sl .full 3 [encRx r]] := fun a b c => rfl
  have h2 : ∀ a b c, layCells false 1 2 [a, b, c] (.sl .full 3 [encRx r]) = some [a, b, .sl .full 3 [encRx r]] := fun a b c => rfl
  unfold f17
  refine Tot.eq ?_
  (repeat' first | (with_reducible first | apply Tot.of (qaa rfl) | apply Tot.of (st_bind rfl) | apply Tot.of (st_map rfl) | apply Tot.of (st_mp rfl) | apply Tot.of (st_leave rfl)) | ((conv => arg 2; arg 1; simp (disch := first | omega | assumption) only [Nat.zero_add, alloc_eq, lay_int, ofA3, List.length_append, List.length_cons, List.length_nil, mp_some, qaf, app_one, app_nil', app_cons', ld_sh, ld_sh0, ldc0, ldcS, sto_sh, stoc0, stocS, rx_box, rx_fold, sp_one, h2, hl]); (with_reducible first | apply Tot.of (qaa rfl))))
  ((try conv => arg 2; simp (disch := first | omega | assumption) only [qad, shut_int, shut_strD, shut_sl, shut_agg, shutL_nil, shutL_cons, own_full, qak, qac, packD, qaj, canon_str, canon_agg, canonL_nil, canonL_cons, qab, qag, List.take_left']); refine Tot.ret ?_)
  rw [hc]
  simp [D.shut, D.shutL, D.canon, D.canonL, rx_shut, rx_canon, Own.shut]
theorem take_whos (p : List Who) : encL 2 ((p.take 30).map encWho) = (D.sl .sh 2 ((p.take 30).map encWho)).canon := (canon_sl (plainWhos _) _ _).symm
theorem s15 (p : List Who) (hp : p.length ≤ 100000000) (A : St) : f15 mL (Run Tryd.prog rxA) (Dcall Tryd.prog rxA) (encL 2 (p.map encWho)) A = some (.ret (encL 2 ((p.take 30).map encWho)), A) := by
  have hpl : lenSlO (encL 2 (p.map encWho)) = some (.int .i64 (p.length : Nat)) := by simp
  have hsh : ∀ l : List Who, ∀ n m : Nat, (encL n (l.map encWho)).shut m = encL n (l.map encWho) := fun l n m => (encL_plain (plainWhos l) n).shut m
  unfold f15
  refine Tot.eq ?_
  by_cases h : 30 < p.length
  · have hsl : sliceSlO 2 (encL 2 (p.map encWho)) none (some (.int .i64 30)) none = some (.sl .sh 2 ((p.take 30).map encWho)) := by
      cases p with
      | nil => simp at h
      | cons w l =>
        have e : esOk .sh 2 2 ((w :: l).map encWho) = true := rfl
        simp only [List.length_cons] at h
        simp [sliceSlO, encL, optInt, D.int?, sliceSl, sliceOwn, esOk, List.map_take]
        omega
    have hs2 : (D.sl .sh 2 ((p.take 30).map encWho)).shut A.length = .sl .sh 2 ((p.take 30).map encWho) := by
      have := (plainWhos (p.take 30)).shut A.length
      simp only [D.shut, this, Own.shut]
    (repeat' first | (with_reducible first | apply Tot.of (st_leave rfl) | apply Tot.bql (b := true) | apply Tot.ift) | ((conv => arg 2; arg 1; simp (disch := first | omega | assumption) only [qaf, hsl, hpl]); (with_reducible first | apply Tot.of (qaa rfl) | (apply Tot.gtr_t; omega))))
    ((try conv => arg 2; simp (disch := first | omega | assumption) only [qad, Kept_refl, qac, List.take_length, qab, qag, hs2]); refine Tot.ret ?_)
    rw [take_whos]
  · rw [List.take_of_length_le (by omega)]
    (repeat' first | (with_reducible first | apply Tot.of (st_leave rfl) | apply Tot.bql (b := false) | apply Tot.iff) | ((conv => arg 2; arg 1; simp (disch := first | omega | assumption) only [qaf, hpl]); (with_reducible first | apply Tot.of (qaa rfl) | (apply Tot.gtr_f; omega))))
    ((try conv => arg 2; simp (disch := first | omega | assumption) only [qad, Kept_refl, qac, List.take_length, qab, qag, hsh, whos_canon]); refine Tot.ret ?_)
    rfl
theorem bool_eql (n : Bool) (l : Bool) : binO .eql 0 l (.bool n) (.bool n) = some (.bool true) := by cases n <;> rfl
theorem s18 (p : List Who) (hp : ∀ w, w ∈ p → WhoOk w) (hn : p.length ≤ 900) (a b : P.Rx) (ha : a.Ok) (hb : b.Ok) (h : isOf p a = isOf p b) (A : St) : f18 mL (Run Tryd.prog rxA) (Dcall Tryd.prog rxA) (encRx a) (encRx b) (encL 2 (p.map encWho)) A = some (.ret (.bool true), A) := by
  have h1 := fun A => s29 p hp hn a ha A
  have h2 := fun A => s29 p hp hn b hb A
  rw [h] at h1
  unfold f18
  refine Tot.eq ?_
  by_cases ca : a.check = 0
  · rw [if_pos ca] at h1
    by_cases cb : b.check = 0
    · rw [if_pos cb] at h2
      (repeat' first | (with_reducible first | apply Tot.of (qaa rfl) | apply Tot.of (st_mp rfl) | apply Tot.of (qae rfl) | apply Tot.of (st_ret rfl) | apply Tot.of (st_leave rfl) | apply Tot.gbl (b := false) | apply Tot.bql (b := false) | apply Tot.ifff) | ((conv => arg 2; arg 1; simp (disch := first | omega | assumption) only [ifb_false, Nat.zero_add, ofA3, List.length_append, List.length_cons, List.length_nil, qaf, app_one, app_nil', app_cons', ld_sh, ld_sh0, ldc0, ldcS, ext0, extS, rx_box, rx_fold, rx_canon, whos_canon, r29, h1, h2, bool_eql]); (with_reducible first | apply Tot.of (qaa rfl) | apply Tot.gbl (b := false) | apply Tot.bql (b := false) | (apply Tot.neq_t; omega))))
      ((try conv => arg 2; simp (disch := first | omega | assumption) only [ifb_false, qad, qao, qak, qac, qal, qab, qag, List.take_left']); refine Tot.ret ?_)
      rfl
    · rw [if_neg cb] at h2
      (repeat' first | (with_reducible first | apply Tot.of (qaa rfl) | apply Tot.of (st_mp rfl) | apply Tot.of (qae rfl) | apply Tot.of (st_ret rfl) | apply Tot.of (st_leave rfl) | apply Tot.gbl (b := false) | apply Tot.bql (b := false) | apply Tot.iftf | apply Tot.ifff) | ((conv => arg 2; arg 1; simp (disch := first | omega | assumption) only [ifb_false, Nat.zero_add, ofA3, List.length_append, List.length_cons, List.length_nil, qaf, app_one, app_nil', app_cons', ld_sh, ld_sh0, ldc0, ldcS, ext0, extS, rx_box, rx_fold, rx_canon, whos_canon, r29, h1, h2]); (with_reducible first | apply Tot.of (qaa rfl) | apply Tot.gbl (b := true) | apply Tot.bql (b := true) | (apply Tot.neq_t; omega) | (apply Tot.neq_f; omega))))
      ((try conv => arg 2; simp (disch := first | omega | assumption) only [ifb_true, qad, qao, qak, qac, qal, qab, qag, List.take_left']); refine Tot.ret ?_)
      rfl
  · rw [if_neg ca] at h1
    by_cases cb : b.check = 0
    · rw [if_pos cb] at h2
      (repeat' first | (with_reducible first | apply Tot.of (qaa rfl) | apply Tot.of (st_mp rfl) | apply Tot.of (qae rfl) | apply Tot.of (st_ret rfl) | apply Tot.of (st_leave rfl) | apply Tot.gbl (b := true) | apply Tot.bql (b := true) | apply Tot.iftf) | ((conv => arg 2; arg 1; simp (disch := first | omega | assumption) only [ifb_true, Nat.zero_add, ofA3, List.length_append, List.length_cons, List.length_nil, qaf, app_one, app_nil', app_cons', ld_sh, ld_sh0, ldc0, ldcS, ext0, extS, rx_box, rx_fold, rx_canon, whos_canon, r29, h1, h2]); (with_reducible first | apply Tot.of (qaa rfl) | apply Tot.gbl (b := true) | apply Tot.bql (b := true) | (apply Tot.neq_f; omega))))
      ((try conv => arg 2; simp (disch := first | omega | assumption) only [ifb_true, qad, qao, qak, qac, qal, qab, qag, List.take_left']); refine Tot.ret ?_)
      rfl
    · rw [if_neg cb] at h2
      (repeat' first | (with_reducible first | apply Tot.of (qaa rfl) | apply Tot.of (st_mp rfl) | apply Tot.of (qae rfl) | apply Tot.of (st_ret rfl) | apply Tot.of (st_leave rfl) | apply Tot.gbl (b := true) | apply Tot.bql (b := true) | apply Tot.iftf) | ((conv => arg 2; arg 1; simp (disch := first | omega | assumption) only [ifb_true, Nat.zero_add, ofA3, List.length_append, List.length_cons, List.length_nil, qaf, app_one, app_nil', app_cons', ld_sh, ld_sh0, ldc0, ldcS, ext0, extS, rx_box, rx_fold, rx_canon, whos_canon, r29, h1, h2]); (with_reducible first | apply Tot.of (qaa rfl) | apply Tot.gbl (b := true) | apply Tot.bql (b := true) | (apply Tot.neq_f; omega))))
      ((try conv => arg 2; simp (disch := first | omega | assumption) only [ifb_true, qad, qao, qak, qac, qal, qab, qag, List.take_left']); refine Tot.ret ?_)
      rfl
theorem isOf_eq {p : List Who} {a b : P.Rx} (h : ∀ i j, Rx.sem p a i j ↔ Rx.sem p b i j) : isOf p a = isOf p b := by
  have e : ∀ P Q : Prop, (P ↔ Q) → @decide P (Classical.propDecidable P) = @decide Q (Classical.propDecidable Q) := by intro P Q h; cases propext h; rfl
  exact e _ _ (h _ _)
theorem alive_st (A : St) : Run Tryd.prog rxA 12 [] A = some (.ret (.bool true), A) := by
  rw [Run_ext _ _ (by decide) rfl]; rfl
theorem law5 (r : P.Rx) (hr : r.Ok) (s : P.Rx) (hs : s.Ok) (p : List Who) (hl : p.length ≤ 2000000) (hp : ∀ w, w ∈ p → WhoOk w) (A : St) : f5 mL (Run Tryd.prog rxA) (Dcall Tryd.prog rxA) (encRx r) (encRx s) (encL 2 (p.map encWho)) A = some (.ret (.bool true), A) := by
  have hpa := fun A => s15 p (by omega) A
  have hp' : ∀ w, w ∈ p.take 30 → WhoOk w := fun w hw => hp w (List.mem_of_mem_take hw)
  have hn' : (p.take 30).length ≤ 900 := by rw [List.length_take]; omega
  have c1 := fun A => s16 r hr A
  have c2 := fun A => s16 s hs A
  unfold f5
  refine Tot.eq ?_
  by_cases hcr : r.check = 0
  · by_cases hcs : s.check = 0
    · rw [hcr] at c1; rw [hcs] at c2
      obtain ⟨r1, _, r3⟩ := check_0 hcr
      obtain ⟨s1, _, s3⟩ := check_0 hcs
      have nr := right_Nm r r3
      have ns := right_Nm s s3
      have o6 := fun A => s17 6 r A
      have o7 := fun A => s17 7 r A
      have o8 := fun A => s17 8 r A
      have s6 := fun A => s17 6 s A
      have n6 := one_Nm (op := 6) (by decide) nr
      have n7 := one_Nm (op := 7) (by decide) nr
      have n8 := one_Nm (op := 8) (by decide) nr
      have m6 := one_Nm (op := 6) (by decide) ns
      have z6 := one_size 6 r
      have z7 := one_size 7 r
      have z8 := one_size 8 r
      have y6 := one_size 6 s
      have e4 : (P.Rx.mk 4 [] []).Nm := ⟨by simp, fun e => absurd (show (4 : Int) = 5 from e) (by decide), trivial⟩
      have e4s : (P.Rx.mk 4 [] []).size = 1 := rfl
      obtain ⟨j1, k1⟩ := join4_Nm nr n6
      obtain ⟨j2, k2⟩ := join5_Nm nr e4
      obtain ⟨j3, k3⟩ := join5_Nm nr ns
      obtain ⟨j4, k4⟩ := join4_Nm n6 m6
      have q1 := fun A => joined_two (op := 4) (a := r) (b := .mk 6 [] [r]) (by omega) A
      have q2 := fun A => joined_two (op := 5) (a := r) (b := .mk 4 [] []) (by omega) A
      have q3 := fun A => joined_two (op := 5) (a := r) (b := s) (by omega) A
      have q4 := fun A => joined_two (op := 4) (a := .mk 6 [] [r]) (b := .mk 6 [] [s]) (by omega) A
      have t3 := fun A => s17 6 (joinR 5 [r, s]) A
      have t4 := fun A => s17 6 (joinR 4 [.mk 6 [] [r], .mk 6 [] [s]]) A
      have z3 := one_size 6 (joinR 5 [r, s])
      have z4 := one_size 6 (joinR 4 [.mk 6 [] [r], .mk 6 [] [s]])
      have a1 := fun A => s18 (p.take 30) hp' hn' _ _ (Rx.Nm.ok _ n7 (by omega)) (Rx.Nm.ok _ j1 (by omega)) (isOf_eq (mean1 (p.take 30) r)) A
      have a2 := fun A => s18 (p.take 30) hp' hn' _ _ (Rx.Nm.ok _ n8 (by omega)) (Rx.Nm.ok _ j2 (by omega)) (isOf_eq (mean2 (p.take 30) r)) A
      have a3 := fun A => s18 (p.take 30) hp' hn' _ _ (Rx.Nm.ok _ (one_Nm (op := 6) (by decide) j3) (by omega)) (Rx.Nm.ok _ (one_Nm (op := 6) (by decide) j4) (by omega)) (isOf_eq (mean3 (p.take 30) r s)) A
      (repeat' first | (with_reducible first | apply Tot.of (st_map rfl) | apply Tot.of (st_mp rfl) | apply Tot.of (qae rfl) | apply Tot.of (st_ret rfl) | apply Tot.of (st_gs rfl) | apply Tot.of (st_leave rfl) | apply Tot.gbl (b := true) | apply Tot.gbl (b := false) | apply Tot.bql (b := true) | apply Tot.bql (b := false) | apply Tot.iff | apply Tot.iftt | apply Tot.ifff) | ((conv => arg 2; arg 1; simp (disch := first | omega | assumption) only [ifb_false, Nat.zero_add, alloc_eq, ofA3, List.length_append, List.length_cons, List.length_nil, un_not, Bool.not_true, sameAd_refl, and_self, mp_some, qaf, qaj, app_one, app_nil', app_cons', ld_sh, ld_sh0, ldc0, ldcS, sto_sh, stoc0, stocS, Nat.reduceAdd, rx_box, rx_fold, rx_canon, rx_lay, whos_canon, r15, hpa, r16, c1, c2, r17, o6, o7, o8, s6, t3, t4, sp_two, sp_two4, r19, canon_two, canon_two4, q1, q2, q3, q4, r18, a1, a2, a3, alive_st]); (with_reducible first | apply Tot.of (qaa rfl) | apply Tot.of (st_guard rfl) | apply Tot.bql (b := false) | (apply Tot.neq_t; omega))))
      ((try conv => arg 2; simp (disch := first | omega | assumption) only [ifb_true, qad, qao, qak, qac, qal, qab, qag, List.take_left']); refine Tot.ret ?_)
      rfl
    · rw [hcr] at c1
      (repeat' first | (with_reducible first | apply Tot.of (st_mp rfl) | apply Tot.of (qae rfl) | apply Tot.of (st_ret rfl) | apply Tot.of (st_leave rfl) | apply Tot.gbl (b := false) | apply Tot.bql (b := false) | apply Tot.ift | apply Tot.ifff) | ((conv => arg 2; arg 1; simp (disch := first | omega | assumption) only [ifb_false, Nat.zero_add, ofA3, List.length_append, List.length_cons, List.length_nil, qaf, app_one, app_nil', app_cons', ld_sh, ld_sh0, ldc0, ldcS, rx_box, rx_fold, rx_canon, whos_canon, r15, hpa, r16, c1, c2, alive_st]); (with_reducible first | apply Tot.of (qaa rfl) | apply Tot.bql (b := true) | (apply Tot.neq_t; omega) | (apply Tot.neq_f; omega))))
      ((try conv => arg 2; simp (disch := first | omega | assumption) only [qad, qao, qak, qac, qal, qab, qag, List.take_left']); refine Tot.ret ?_)
      rfl
  · (repeat' first | (with_reducible first | apply Tot.of (qaa rfl) | apply Tot.of (st_mp rfl) | apply Tot.of (qae rfl) | apply Tot.of (st_ret rfl) | apply Tot.of (st_leave rfl) | apply Tot.gbl (b := true) | apply Tot.bql (b := true) | apply Tot.ift | apply Tot.iftf) | ((conv => arg 2; arg 1; simp (disch := first | omega | assumption) only [ifb_true, Nat.zero_add, ofA3, List.length_append, List.length_cons, List.length_nil, qaf, app_one, app_nil', app_cons', ld_sh0, ldc0, rx_box, rx_fold, rx_canon, whos_canon, r15, hpa, r16, c1, alive_st]); (with_reducible first | apply Tot.of (qaa rfl) | apply Tot.bql (b := true) | (apply Tot.neq_f; omega))))
    ((try conv => arg 2; simp (disch := first | omega | assumption) only [qad, qao, qak, qac, qal, qab, qag, List.take_left']); refine Tot.ret ?_)
    rfl
end Go.Vm.Rx
