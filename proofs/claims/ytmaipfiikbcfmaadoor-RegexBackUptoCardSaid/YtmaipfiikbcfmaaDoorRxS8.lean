/- RxS5, RxS6, RxS7, RxS8 in one text. -/
import Derived.Test.YtmaipfiikbcfmaaDoorRxS4
set_option linter.all false
/- What the reference's reader of texts comes to. -/
namespace Go.Vm.Rx
open Go.Proofs P
set_option linter.unusedVariables false
set_option linter.unusedSimpArgs false
set_option maxRecDepth 10000
set_option maxHeartbeats 1000000
def encRow (l : List Word) : D := encL 3 (l.map encW)
theorem plainRow (l : List Word) : Plain (encRow l) := encL_plain (plainWs l) 3
theorem plainRows (l : List (List Word)) : PlainL (l.map encRow) := PlainL.map plainRow l
def linesRes (acc : List (List Word)) : Except (Int × Int) (List (List Word)) → D
  | .ok l => .tup [encL 1 ((acc ++ l).map encRow), .int .i64 0, .int .i64 0, .int .i64 0]
  | .error a => .tup [.sl .sh 0 [], .int .i64 a.1, .int .i64 a.2, .int .i64 30]
theorem len_row (l : List Word) : lenSlO (encRow l) = some (.int .i64 l.length) := by simp [encRow]
end Go.Vm.Rx

/- What the walk over a text's lines comes to. -/
namespace Go.Vm.Rx
open Go Go.Proofs P
set_option linter.unusedVariables false
set_option linter.unusedSimpArgs false
set_option maxRecDepth 10000
set_option maxHeartbeats 1000000
theorem s101 (s : Str) (c : UInt8) (hs : s.length < 4611686018427387904) (A : St) : f101 mL (Run Tryd.prog rxA) (Dcall Tryd.prog rxA) (.str s) (.str [c]) A = some (.ret (.int .i64 (Lib.indexByte s c)), A) := by
  have hl1 : ([c] : Str).length = 1 := rfl
  unfold f101
  refine Tot.eq ?_
  (repeat' first | (with_reducible first | apply Tot.of (qaa rfl) | apply Tot.of (qa3 rfl) | apply Tot.of (qah rfl) | apply Tot.of (qas rfl) | apply Tot.of (qak rfl) | apply Tot.gbl (b := false) | apply Tot.bql (b := true) | apply Tot.bql (b := false) | apply Tot.ift | apply Tot.iff | apply Tot.ifff | (apply Tot.seql; all_goals intro hsp)) | ((conv => arg 2; arg 1; simp (disch := first | omega | assumption) only [qaw, qbk, qai, qag, qam, idxStr0, r102, s102, hl1]); (with_reducible first | apply Tot.of (qaa rfl) | apply Tot.bql (b := true) | apply Tot.bql (b := false) | (apply Tot.eql_t; omega) | (apply Tot.eql_f; omega))))
  · ((try conv => arg 2; simp (disch := first | omega | assumption) only [qac, qao, qa2, qad, List.take_length, qai, qag, qab, qae]); refine Tot.ret ?_)
    have : s = [c] := by first | assumption | (exact Eq.symm (by assumption))
    subst this
    simp [Lib.indexByte]
  · ((try conv => arg 2; simp (disch := first | omega | assumption) only [qac, qao, qa2, qad, List.take_length, qag, qab, qae]); refine Tot.ret ?_)
    rfl
theorem s89 (s : Str) (c : UInt8) (hs : s.length < 4611686018427387904) (A : St) : f89 mL (Run Tryd.prog rxA) (Dcall Tryd.prog rxA) (.str s) (.str [c]) A = some (.ret (.int .i64 (Lib.indexByte s c)), A) := by
  unfold f89
  refine Tot.eq ?_
  (repeat' first | (with_reducible first | apply Tot.of (qas rfl) | apply Tot.of (qak rfl)) | ((conv => arg 2; arg 1; simp (disch := first | omega | assumption) only [qam, r101, s101]); (with_reducible first | apply Tot.of (qaa rfl))))
  all_goals (((try conv => arg 2; simp (disch := first | omega | assumption) only [qac, qao, qa2, qad, List.take_length, qag, qab, qae]); refine Tot.ret ?_); rfl)
theorem idx_none (t : Str) (h : Lib.indexByte t 10 < 0) : splitNL t = (t, []) := by
  induction t with
  | nil => rfl
  | cons c t ih =>
    have := idx_low t 10
    unfold Lib.indexByte at h
    split at h
    · omega
    · rename_i hc
      have hc' : ¬ c = 10 := by simpa using hc
      have hc2 : ¬ c.toNat = 10 := fun e => hc' (UInt8.toNat_inj.1 e)
      split at h
      · rename_i h1
        have h1' : Lib.indexByte t 10 = -1 := by simpa using h1
        rw [splitNL, if_neg hc2, ih (by omega)]
      · omega
theorem idx_some (t : Str) : ∀ i : Nat, Lib.indexByte t 10 = i → i < t.length ∧ splitNL t = (t.take i, (splitNL (t.drop (i + 1))).1 :: (splitNL (t.drop (i + 1))).2) := by
  induction t with
  | nil => intro i h; simp [Lib.indexByte] at h
  | cons c t ih =>
    intro i h
    have := idx_low t 10
    unfold Lib.indexByte at h
    split at h
    · rename_i hc
      have hc' : c = 10 := by simpa using hc
      have : i = 0 := by omega
      subst this; subst hc'
      exact ⟨by simp, by rw [splitNL, if_pos (by decide)]; rfl⟩
    · rename_i hc
      have hc' : ¬ c = 10 := by simpa using hc
      have hc2 : ¬ c.toNat = 10 := fun e => hc' (UInt8.toNat_inj.1 e)
      split at h
      · rename_i h1
        have h1' : Lib.indexByte t 10 = -1 := by simpa using h1
        omega
      · rename_i h1
        have h1' : ¬ Lib.indexByte t 10 = -1 := by simpa using h1
        obtain ⟨j, rfl⟩ : ∃ j : Nat, i = j + 1 := ⟨i - 1, by omega⟩
        obtain ⟨h2, h3⟩ := ih j (by omega)
        refine ⟨by simp; omega, ?_⟩
        rw [splitNL, if_neg hc2, h3]
        rfl
/-- the store of the walk: results, the line's number, the rows and their room, the text that is left, the sign between, and the loop's record -/
noncomputable def TL (a : Nat) (n : Int) (rows : List (List Word)) (s : Str) (rs : RSt) : St :=
  [.cells [.sl .full 0 []], .cells [.int .i64 0], .cells [.int .i64 0], .cells [.int .i64 0], .cells [.int .i64 n], .cells [.sl (.own (a + 6) 0) 1 (rows.map encRow)], .tok rows.length,
   .cells [.str s], .cells [.str [10]], .cells [.int .i64 0], .dfb, .loop 26 (e26_8 (.ref (a + 4) 0) (.ref (a + 5) 0)) (rfAt Tryd.prog 26 8) rs]
theorem TL_length (a : Nat) (n : Int) (rows : List (List Word)) (s : Str) (rs : RSt) : (TL a n rows s rs).length = 12 := rfl
theorem TL_kept {A : St} {n n' : Int} {rows rows' : List (List Word)} {s s' : Str} {rs rs' : RSt} : Kept (A ++ TL A.length n rows s rs) (A ++ TL A.length n' rows' s' rs') ↔ True := by
  refine iff_true_intro (Kept_tail (Nat.le_refl _) fun i hi => ?_)
  rw [TL_length] at hi
  match i, hi with
  | 0, _ => exact .inl rfl
  | 1, _ => exact .inl rfl
  | 2, _ => exact .inl rfl
  | 3, _ => exact .inl rfl
  | 4, _ => exact .inr ⟨_, rfl, by simp⟩
  | 5, _ => exact .inr ⟨_, rfl, by
      simp only [cells_shut, qar, shut_sl, qay, (plainRows rows').shut]
      rw [own_own]
      simp [TL_length]⟩
  | 6, _ => exact .inr ⟨_, rfl, rfl⟩
  | 7, _ => exact .inr ⟨_, rfl, by simp⟩
  | 8, _ => exact .inl rfl
  | 9, _ => exact .inl rfl
  | 10, _ => exact .inl rfl
  | 11, _ => exact .inr ⟨_, rfl, by
      rw [loop_shut]
      unfold e26_8
      simp only [sp, anys, qar, qay, shut_any]
      rw [shut_ref, shut_ref] <;> simp [TL_length]⟩
theorem TL_take {A : St} {n n' : Int} {rows rows' : List (List Word)} {s s' : Str} {rs rs' : RSt} : (A ++ TL A.length n rows s rs).take (A ++ TL A.length n' rows' s' rs').length = A ++ TL A.length n rows s rs := take_tail rfl
theorem TL_ready {A : St} {n : Int} {rows : List (List Word)} {s : Str} {rs : RSt} : (A ++ TL A.length n rows s rs)[A.length + 11]? = some (.loop 26 (e26_8 (.ref (A.length + 4) 0) (.ref (A.length + 5) 0)) (rfAt Tryd.prog 26 8) rs) := get_sh _ _ _
noncomputable def T (A : St) (n : Int) (rows : List (List Word)) (s : Str) (rs : RSt) : St := A ++ TL A.length n rows s rs
/-- what a walk over lines comes to -/
def walkOut (A : St) (rows : List (List Word)) (x : Except (Int × Int) (List (List Word))) (r : Res × St) : Prop :=
  match x with
  | .ok l => ∃ n' s', r = (.ret (.tup []), T A n' (rows ++ l) s' .ready)
  | .error a => ∃ n' rows' s', r = (.pan (.iface 93 (.agg [.int .i64 a.1, .int .i64 a.2])), T A n' rows' s' .busy)
def addRow (rows : List (List Word)) (l : List Word) : List (List Word) := match l with | [] => rows | _ :: _ => rows ++ [l]
/-- what a round comes to -/
def roundOut (A : St) (n : Int) (rows : List (List Word)) (s u : Str) (r : Res × St) : Prop :=
  match toks (n + 1) (u.length + 1) 0 u with
  | none => False
  | some (.ok l) => r = (.ret (.bool true), T A (n + 1) (addRow rows l) s .ready)
  | some (.error a) => r = (.pan (.iface 93 (.agg [.int .i64 (n + 1), .int .i64 ((a : Int) + 1)])), T A (n + 1) rows s .busy)
theorem T_ld7 {A : St} {n : Int} {rows : List (List Word)} {s : Str} {rs : RSt} : loadO false 1 (.ref (A.length + 7) 0) (T A n rows s rs) = some (.str s) := by unfold T; rw [ld_sh]; rfl
theorem T_ld8 {A : St} {n : Int} {rows : List (List Word)} {s : Str} {rs : RSt} : loadO false 1 (.ref (A.length + 8) 0) (T A n rows s rs) = some (.str [10]) := by unfold T; rw [ld_sh]; rfl
theorem T_ld9 {A : St} {n : Int} {rows : List (List Word)} {s : Str} {rs : RSt} : loadO false 1 (.ref (A.length + 9) 0) (T A n rows s rs) = some (.int .i64 0) := by unfold T; rw [ld_sh]; rfl
theorem T_st7 {A : St} {n : Int} {rows : List (List Word)} {s s' : Str} {rs : RSt} : storeO false 1 (.ref (A.length + 7) 0) (.str s') (T A n rows s rs) = some (T A n rows s' rs) := by unfold T; rw [sto_sh]; rfl
theorem s87_loop (hround : ∀ (A : St) (n : Int) (rows : List (List Word)) (s u : Str), u.length ≤ 100000000 → rows.length ≤ 100000000 → 0 ≤ n → n ≤ 100000000 →
      Tot (roundOut A n rows s u) (Run Tryd.prog rxA rOff [.tup [.yld true (A.length + 11)], .tup [.str u]] (T A n rows s .ready))) (A : St) (s0 : Str) : ∀ (m : Nat) (t : Str) (n : Int) (rows : List (List Word)) (x : Except (Int × Int) (List (List Word))), t.length < m → t.length + rows.length ≤ 100000000 → 0 ≤ n → n + t.length ≤ 100000000 →
    rowsOf (n + 1) ((splitNL t).1 :: (splitNL t).2) = some x →
    Tot (walkOut A rows x) (iterK (f87_s1 mL (Run Tryd.prog rxA) (Dcall Tryd.prog rxA) (T A 0 [] s0 .ready)) (Env.mk (sp [(0, .yld false (A.length + 11)), (0, .ref (A.length + 8) 0), (0, .ref (A.length + 7) 0), (0, .ref (A.length + 9) 0)] 48) []) (T A n rows t .ready)) := by
  intro m
  induction m with
  | zero => intro t n rows x h; omega
  | succ m ih =>
    intro t n rows x hm hb hn0 hn hx
    refine Tot.iter ?_
    conv => arg 2; arg 1; unfold f87_s1
    have hy : ∀ u, applyD (Run Tryd.prog rxA) (.yld false (A.length + 11)) [.str u] (T A n rows t .ready) = Run Tryd.prog rxA rOff [.tup [.yld true (A.length + 11)], .tup [.str u]] (T A n rows t .ready) := fun u => yld_call _ _ _ _ TL_ready
    have hlen1 : lenStrO (.str [10]) = some (.int .i64 1) := rfl
    have hK : ∀ n n' rows rows' s s' rs rs', Kept (T A n rows s rs) (T A n' rows' s' rs') ↔ True := fun _ _ _ _ _ _ _ _ => TL_kept
    have hT : ∀ n n' rows rows' s s' rs rs', (T A n rows s rs).take (T A n' rows' s' rs').length = T A n rows s rs := fun _ _ _ _ _ _ _ _ => TL_take
    have hTl : ∀ n rows s rs, (T A n rows s rs).length = A.length + 12 := fun _ _ _ _ => by unfold T; rw [List.length_append]; rfl
    have hsh : ∀ n rows s rs i, i < 12 → (D.ref (A.length + i) 0).shut (T A n rows s rs).length = .ref (A.length + i) 0 := fun n rows s rs i hi => shut_ref _ (by rw [hTl]; omega)
    have hshy : ∀ n rows s rs, (D.yld false (A.length + 11)).shut (T A n rows s rs).length = .yld false (A.length + 11) := fun n rows s rs => by simp [D.shut, hTl]
    by_cases hneg : Lib.indexByte t 10 < 0
    · have hs := idx_none t hneg
      rw [hs] at hx
      have hr := hround A n rows t t (by omega) (by omega) hn0 (by omega)
      (repeat' first | (with_reducible first | apply Tot.of (qaq rfl) | apply Tot.of (qba rfl) | apply Tot.of (qa3 rfl) | apply Tot.of (qah rfl) | apply Tot.of (qav rfl) | apply Tot.of (qas rfl) | apply Tot.bql (b := true) | apply Tot.ift) | ((conv => arg 2; arg 1; simp (disch := first | omega | assumption) only [qa5, qbe, qai, qam, T_ld7, T_ld8, r89, s89]); (with_reducible first | apply Tot.of (qaa rfl) | (apply Tot.lss_t; omega))))
      conv => arg 2; arg 1; simp (disch := first | omega | assumption) only [qa5, hy]
      refine Tot.bn hr fun r hr => ?_
      unfold roundOut at hr
      unfold rowsOf at hx
      cases htk : toks (n + 1) (t.length + 1) 0 t with
      | none => rw [htk] at hr; exact hr.elim
      | some y =>
        rw [htk] at hr hx
        cases y with
        | error a =>
          cases hx
          subst hr
          (repeat' first | (with_reducible first | apply Tot.of (qaq rfl) | apply Tot.of (qav rfl) | apply Tot.of (st_pan rfl) | apply Tot.of (qa0 rfl)) | ((conv => arg 2; arg 1; simp (disch := first | omega | assumption) only [qao, shut_agg, shut_iface, qay, qar, Res_shut_pan, leaves_pan, qag, canon_agg, canon_iface, qat, qan, Res_canon_pan, qae]); (with_reducible first | apply Tot.of (qaa rfl) | apply Tot.of (st_bnguard rfl))))
          ((try conv => arg 2; simp (disch := first | omega | assumption) only [bn_some, qac, Sum.elim_inr, hK, hT]); refine Tot.ret ?_)
          exact ⟨_, _, _, rfl⟩
        | ok l =>
          simp only [rowsOf, Option.map_some, Option.some.injEq] at hx
          subst hx
          subst hr
          (repeat' first | (with_reducible first | apply Tot.of (qaq rfl) | apply Tot.of (qav rfl) | apply Tot.of (qas rfl) | apply Tot.of (qa0 rfl)) | ((conv => arg 2; arg 1; simp (disch := first | omega | assumption) only [Option.map_some, shut_tup, qay, qad, qal, canon_tup, qat, qab, qae]); (with_reducible first | apply Tot.of (qaa rfl) | apply Tot.of (st_bnguard rfl))))
          ((try conv => arg 2; simp (disch := first | omega | assumption) only [bn_some, qac, Sum.elim_inr, hK, hT]); refine Tot.ret ?_)
          refine ⟨n + 1, t, ?_⟩
          cases l <;> simp [putRow, Except.map, addRow]
    · obtain ⟨i, hi⟩ : ∃ i : Nat, Lib.indexByte t 10 = i := ⟨(Lib.indexByte t 10).toNat, by omega⟩
      obtain ⟨hil, hs⟩ := idx_some t i hi
      rw [hs] at hx
      have hr := hround A n rows t (t.take i) (by simp; omega) (by omega) hn0 (by omega)
      have hm1 : ((i : Int) + 0).toNat = i := by omega
      (repeat' first | (with_reducible first | apply Tot.of (qaq rfl) | apply Tot.of (qa3 rfl) | apply Tot.of (qah rfl) | apply Tot.of (qav rfl) | apply Tot.of (qas rfl) | apply Tot.bql (b := false) | apply Tot.iff) | ((conv => arg 2; arg 1; simp (disch := first | omega | assumption) only [binO_add, qbi, qa5, qbe, qai, qam, Int.toNat_natCast, slStr_to, T_ld7, T_ld8, T_ld9, r89, s89, hi, Int.add_zero]); (with_reducible first | apply Tot.of (qaa rfl) | (apply Tot.lss_f; omega))))
      conv => arg 2; arg 1; simp (disch := first | omega | assumption) only [qa5, hy]
      refine Tot.bn hr fun r hr => ?_
      unfold roundOut at hr
      unfold rowsOf at hx
      cases htk : toks (n + 1) ((t.take i).length + 1) 0 (t.take i) with
      | none => rw [htk] at hr; exact hr.elim
      | some y =>
        rw [htk] at hr hx
        cases y with
        | error a =>
          cases hx
          subst hr
          (repeat' first | (with_reducible first | apply Tot.of (qaq rfl) | apply Tot.of (qba rfl) | apply Tot.of (qav rfl) | apply Tot.of (st_pan rfl) | apply Tot.of (qa0 rfl)) | ((conv => arg 2; arg 1; simp (disch := first | omega | assumption) only [qao, shut_agg, shut_iface, qay, qar, Res_shut_pan, leaves_pan, qag, canon_agg, canon_iface, qat, qan, Res_canon_pan, qae]); (with_reducible first | apply Tot.of (qaa rfl) | apply Tot.of (st_bnguard rfl))))
          ((try conv => arg 2; simp (disch := first | omega | assumption) only [bn_some, qac, Sum.elim_inr, hK, hT]); refine Tot.ret ?_)
          exact ⟨_, _, _, rfl⟩
        | ok l =>
          simp only [Option.map_eq_some_iff] at hx
          obtain ⟨z, hz, rfl⟩ := hx
          subst hr
          (repeat' first | (with_reducible first | apply Tot.of (qaa rfl) | apply Tot.of (qaq rfl) | apply Tot.of (qa3 rfl) | apply Tot.of (qah rfl) | apply Tot.of (qav rfl) | apply Tot.of (st_bnguard rfl) | apply Tot.of (qas rfl) | apply Tot.of (st_inl rfl) | apply Tot.of (st_bngk rfl) | apply Tot.bql (b := false) | apply Tot.iff) | ((conv => arg 2; arg 1; simp (disch := first | omega | assumption) only [binO_add, qbi, un_not, Bool.not_true, qa5, qbe, toNat_a1, slStr_from, T_ld7, T_ld8, T_st7, hlen1, hK]); (with_reducible first | apply Tot.of (qaa rfl) | apply Tot.of (st_guard rfl))))
          have hs7 := hsh n rows t .ready 7 (by omega)
          have hs8 := hsh n rows t .ready 8 (by omega)
          have hs9 := hsh n rows t .ready 9 (by omega)
          conv => arg 2; simp (disch := first | omega | assumption) only [List.map_nil, qa5, qbe, hT, hshy, hs7, hs8, hs9]
          have hih := ih (t.drop (i + 1)) (n + 1) (addRow rows l) z (by simp; omega) (by cases l <;> simp [addRow] <;> omega) (by omega) (by simp; omega) hz
          refine Tot.mono hih fun r hr => ?_
          cases z with
          | ok ls =>
            obtain ⟨n', s', hr⟩ := hr
            refine ⟨n', s', ?_⟩
            rw [hr]
            cases l <;> simp [putRow, Except.map, addRow]
          | error a => exact hr
end Go.Vm.Rx

/- What one round of the walk over a text's lines comes to. -/
namespace Go.Vm.Rx
open Go Go.Proofs P
set_option linter.unusedVariables false
set_option linter.unusedSimpArgs false
set_option maxRecDepth 10000
set_option maxHeartbeats 1000000
theorem TL_fix (a : Nat) (n : Int) (rows : List (List Word)) (s : Str) (rs : RSt) : ∀ (i : Nat) (x : Slot), (TL a n rows s rs)[i]? = some x → x.shut (a + 12) = x := by
  intro i x h
  match i with
  | 0 => cases h; simp
  | 1 => cases h; simp
  | 2 => cases h; simp
  | 3 => cases h; simp
  | 4 => cases h; simp
  | 5 =>
    cases h
    simp only [cells_shut, qar, shut_sl, qay, (plainRows rows).shut]
    rw [own_own]
    omega
  | 6 => cases h; rfl
  | 7 => cases h; simp
  | 8 => cases h; simp
  | 9 => cases h; simp
  | 10 => cases h; rfl
  | 11 =>
    cases h
    rw [loop_shut]
    unfold e26_8
    simp only [sp, anys, qar, qay, shut_any]
    rw [shut_ref, shut_ref] <;> omega
  | i + 12 => simp [TL] at h
/-- what a round leaves -/
theorem close_T {A L M : St} {n n' : Int} {rows rows' : List (List Word)} {s s' : Str} {rs rs' : RSt} (hL : L.length = 12)
    (h : ∀ i, i < 12 → ∃ x, L[i]? = some x ∧ (TL A.length n' rows' s' rs')[i]? = some (x.shut (A.length + 12))) : closeSt (T A n rows s rs) ((A ++ L) ++ M) = T A n' rows' s' rs' := by
  have hlT : ∀ n rows s rs, (T A n rows s rs).length = A.length + 12 := fun _ _ _ _ => by unfold T; rw [List.length_append]; rfl
  apply List.ext_getElem?
  intro k
  unfold closeSt
  rw [List.getElem?_map]
  rcases Nat.lt_or_ge k (A.length + 12) with hk | hk
  · have hr : (List.range (T A n rows s rs).length)[k]? = some k := by rw [hlT, List.getElem?_range hk]
    rw [hr, Option.map_some]
    rcases Nat.lt_or_ge k A.length with h1 | h1
    · have e1 : (A ++ L ++ M)[k]? = A[k]? := by rw [List.append_assoc, List.getElem?_append_left h1]
      have e2 : ∀ n rows s rs, (T A n rows s rs)[k]? = A[k]? := fun _ _ _ _ => by unfold T; rw [List.getElem?_append_left h1]
      rw [if_pos (by rw [e1, e2])]
      rw [e2, List.getD_eq_getElem?_getD, e2, List.getElem?_eq_getElem h1]
      rfl
    · obtain ⟨i, rfl⟩ : ∃ i, k = A.length + i := ⟨k - A.length, by omega⟩
      obtain ⟨x, hx1, hx2⟩ := h i (by omega)
      have e1 : (A ++ L ++ M)[A.length + i]? = some x := by
        rw [List.append_assoc, get_sh, List.getElem?_append_left (by omega), hx1]
      have e2 : (T A n' rows' s' rs')[A.length + i]? = some (x.shut (A.length + 12)) := by unfold T; rw [get_sh]; exact hx2
      have e3 : (T A n rows s rs)[A.length + i]? = (TL A.length n rows s rs)[i]? := by unfold T; rw [get_sh]
      rw [e2]
      by_cases he : (A ++ L ++ M)[A.length + i]? = (T A n rows s rs)[A.length + i]?
      · rw [if_pos he, List.getD_eq_getElem?_getD, ← he, e1]
        simp only [Option.getD_some, Option.some.injEq]
        exact (TL_fix A.length n rows s rs i x (by rw [← e3, ← he, e1])).symm
      · rw [if_neg he, List.getD_eq_getElem?_getD, e1, hlT]
        rfl
  · rw [List.getElem?_eq_none (by simp [hlT]; omega), List.getElem?_eq_none (by rw [hlT]; omega)]
    rfl
theorem T_ld4 {A : St} {n : Int} {rows : List (List Word)} {s : Str} {rs : RSt} : loadO false 1 (.ref (A.length + 4) 0) (T A n rows s rs) = some (.int .i64 n) := by unfold T; rw [ld_sh]; rfl
theorem T_st4 {A : St} {n n' : Int} {rows : List (List Word)} {s : Str} {rs : RSt} : storeO false 1 (.ref (A.length + 4) 0) (.int .i64 n') (T A n rows s rs) = some (T A n' rows s rs) := by unfold T; rw [sto_sh]; rfl
theorem T_busy {A : St} {n : Int} {rows : List (List Word)} {s : Str} : recBusy (A.length + 11) (T A n rows s .ready) = some (T A n rows s .busy) := by
  unfold recBusy
  have := TL_ready (A := A) (n := n) (rows := rows) (s := s) (rs := .ready)
  unfold T
  rw [this]
  simp [TL]
theorem T_ready {A : St} {n : Int} {rows : List (List Word)} {s : Str} {rs : RSt} : (T A n rows s rs)[A.length + 11]? = some (.loop 26 (e26_8 (.ref (A.length + 4) 0) (.ref (A.length + 5) 0)) (rfAt Tryd.prog 26 8) rs) := TL_ready
theorem T_length (A : St) (n : Int) (rows : List (List Word)) (s : Str) (rs : RSt) : (T A n rows s rs).length = A.length + 12 := by unfold T; rw [List.length_append]; rfl
theorem tok_ref (B : St) (x y : D) (u : D) : tokO [(3, 3)] (.ref B.length 0) (B ++ [.cells [x, y, u, .sl .full 0 []]]) = some (.ref B.length 0, B ++ [.cells [x, y, u, .sl (.own (B.length + 1) 0) 3 []], .tok 0]) := by
  unfold tokO tokD
  simp [tokCells, tokCell]
theorem stR_new (B : St) (s0 s1 : Slot) (line at_ : Int) (u : Str) (ws : List Word) : stR (B ++ [s0, s1]) B.length (B.length + 1) line at_ u ws = B ++ [.cells [.int .i64 line, .int .i64 at_, .str u, .sl (.own (B.length + 1) 0) 3 (ws.map encW)], .tok ws.length] := by
  unfold stR st
  simp
theorem shutL_append (n : Nat) (a b : List D) : D.shutL n (a ++ b) = D.shutL n a ++ D.shutL n b := by simp [shutL_eq]
theorem set_sh (A L : St) (i : Nat) (s : Slot) : (A ++ L).set (A.length + i) s = A ++ L.set i s := by
  rw [List.set_append_right _ _ (by omega)]
  simp
/-- the same store, the rows' variable and room as they are told -/
noncomputable def TL2 (a : Nat) (n : Int) (e : D) (m : Nat) (s : Str) (rs : RSt) : St :=
  [.cells [.sl .full 0 []], .cells [.int .i64 0], .cells [.int .i64 0], .cells [.int .i64 0], .cells [.int .i64 n], .cells [e], .tok m,
   .cells [.str s], .cells [.str [10]], .cells [.int .i64 0], .dfb, .loop 26 (e26_8 (.ref (a + 4) 0) (.ref (a + 5) 0)) (rfAt Tryd.prog 26 8) rs]
theorem T_eq2 (A : St) (n : Int) (rows : List (List Word)) (s : Str) (rs : RSt) : T A n rows s rs = A ++ TL2 A.length n (.sl (.own (A.length + 6) 0) 1 (rows.map encRow)) rows.length s rs := rfl
section
variable {A M : St} {n : Int} {e d : D} {m m' : Nat} {s : Str} {rs : RSt}
theorem T2_ld5 : loadO false 1 (.ref (A.length + 5) 0) (A ++ TL2 A.length n e m s rs ++ M) = some e := by
  rw [List.append_assoc, ld_sh]; rfl
theorem T2_set6 : (A ++ TL2 A.length n e m s rs ++ M).set (A.length + 6) (.tok m') = A ++ TL2 A.length n e m' s rs ++ M := by
  rw [List.append_assoc, set_sh, List.append_assoc]; rfl
theorem T2_get6 : (A ++ TL2 A.length n e m s rs ++ M)[A.length + 6]? = some (.tok m) := by
  rw [List.append_assoc, get_sh]; rfl
theorem T2_st5 (o : Own) (k : Nat) (ds : List D) : storeO false 1 (.ref (A.length + 5) 0) (.sl o k ds) (A ++ TL2 A.length n e m s rs ++ M) = some (A ++ TL2 A.length n (.sl o k ds) m s rs ++ M) := by
  rw [List.append_assoc, sto_sh, List.append_assoc]; rfl
theorem T2_rec : recSet (A.length + 11) .ready (A ++ TL2 A.length n e m s .busy ++ M) = some (A ++ TL2 A.length n e m s .ready ++ M) := by
  have h : (A ++ TL2 A.length n e m s .busy ++ M)[A.length + 11]? = some (.loop 26 (e26_8 (.ref (A.length + 4) 0) (.ref (A.length + 5) 0)) (rfAt Tryd.prog 26 8) .busy) := by
    rw [List.append_assoc, get_sh]; rfl
  unfold recSet
  rw [h]
  simp only
  rw [List.append_assoc, set_sh, List.append_assoc]; rfl
theorem T2_app {rows : List (List Word)} (x : D) (hr : rows.length ≤ 100000000) : appendO 1 24 (.sl (.own (A.length + 6) 0) 1 (rows.map encRow)) (.sl .full 1 [x]) (A ++ TL2 A.length n e rows.length s rs ++ M) =
    some (.sl (.own (A.length + 6) 0) 1 (rows.map encRow ++ [x]), A ++ TL2 A.length n e (rows.length + 1) s rs ++ M) := by
  rw [append_own (s0 := 0) (new := [x]) (by simp [appendNew, esOk]) (by rw [T2_get6]; simp) (by simp [roomOk]; omega) (by simp; omega), T2_set6]
  simp
end
theorem round_ok (A : St) (n : Int) (rows : List (List Word)) (s u : Str) (hu : u.length ≤ 100000000) (hr : rows.length ≤ 100000000) (hn0 : 0 ≤ n) (hn : n ≤ 100000000) :
    Tot (roundOut A n rows s u) (Run Tryd.prog rxA rOff [.tup [.yld true (A.length + 11)], .tup [.str u]] (T A n rows s .ready)) := by
  rw [rg26_8 (A.length + 11) _ (.ref (A.length + 4) 0) (.ref (A.length + 5) 0) _ T_ready]
  unfold g26_8
  obtain ⟨x, hx⟩ := toks_some (n + 1) (u.length + 1) 0 u (by omega)
  have hread := s48 u hu (n + 1) (T A (n + 1) rows s .busy ++ [.cells [.int .i64 (n + 1), .int .i64 0, .str u, .sl (.own ((T A (n + 1) rows s .busy).length + 1) 0) 3 []], .tok 0]) (T A (n + 1) rows s .busy).length ((T A (n + 1) rows s .busy).length + 1) (by simp) (by simp) (by omega) x hx
  rw [stR_new] at hread
  have h40 : (40 == 40) = true := rfl
  (repeat' first | (with_reducible first | apply Tot.of (qaa rfl) | apply Tot.of (st_bind rfl) | apply Tot.of (qba rfl) | apply Tot.of (qa3 rfl) | (apply Tot.if_t; assumption)) | ((conv => arg 2; arg 1; simp (disch := first | omega | assumption) only [Option.map_some, binO_add, qbi, box_agg2, allCells_nil, allCells_int, allCells_sl, cond_true, lay_int, lay_s, qai, lay_str, allCells_str, lay_ii, T_ld4, T_st4, T_busy, tok_ref]); (with_reducible first | apply Tot.of (qaa rfl))))
  conv => arg 2; arg 1; simp (disch := first | omega | assumption) only [qbg, r48]
  refine Tot.bn hread fun r hr => ?_
  unfold roundOut
  rw [hx]
  cases x with
  | error a =>
    obtain ⟨ws', rfl⟩ := hr
    rw [stR_new]
    have hcl : closeSt (T A n rows s .ready) (T A (n + 1) rows s .busy ++ [.cells [.int .i64 (n + 1), .int .i64 (a : Nat), .str u, .sl (.own ((T A (n + 1) rows s .busy).length + 1) 0) 3 (ws'.map encW)], .tok ws'.length]) = T A (n + 1) rows s .busy := by
      refine close_T (L := TL A.length (n + 1) rows s .busy) rfl fun i hi => ?_
      have hlt : i < (TL A.length (n + 1) rows s .busy).length := hi
      exact ⟨_, List.getElem?_eq_getElem hlt, by rw [TL_fix _ _ _ _ _ i _ (List.getElem?_eq_getElem hlt)]; exact List.getElem?_eq_getElem hlt⟩
    (repeat' first | (with_reducible first | apply Tot.of (st_pan rfl)) | ((conv => arg 2; arg 1; simp (disch := first | omega | assumption) only [mL_cl, hcl]); (with_reducible first | apply Tot.of (qaa rfl))))
    ((try conv => arg 2; simp (disch := first | omega | assumption) only [qao, shut_agg, shut_iface, qay, qar]); refine Tot.ret ?_)
    rfl
  | ok l =>
    obtain ⟨j, rfl⟩ := hr
    rw [stR_new, List.nil_append]
    generalize hM : ([Slot.cells [D.int .i64 (n + 1), D.int .i64 j, D.str u, D.sl (.own ((T A (n + 1) rows s .busy).length + 1) 0) 3 (l.map encW)], Slot.tok l.length] : St) = M
    have hld3 : loadO false 1 (.ref (T A (n + 1) rows s .busy).length 3) (T A (n + 1) rows s .busy ++ M) = some (.sl (.own ((T A (n + 1) rows s .busy).length + 1) 0) 3 (l.map encW)) := by
      subst hM; rw [qa9]; rfl
    have hsp1 : ∀ o ds, sliceParts 1 false 0 [(0, D.sl o 3 ds)] = some [.sl o 3 ds] := fun _ _ => rfl
    have hap := fun x => T2_app (A := A) (M := M) (n := n + 1) (e := .sl (.own (A.length + 6) 0) 1 (rows.map encRow)) (s := s) (rs := .busy) (rows := rows) x hr
    have hlen : (T A (n + 1) rows s .busy).length = A.length + 12 := T_length _ _ _ _ _
    have hcl : ∀ (L : St), L.length = 12 → (∀ i, i < 12 → ∃ x, L[i]? = some x ∧ (TL A.length (n + 1) (addRow rows l) s .ready)[i]? = some (x.shut (A.length + 12))) → closeSt (T A n rows s .ready) ((A ++ L) ++ M) = T A (n + 1) (addRow rows l) s .ready := fun L h1 h2 => close_T h1 h2
    rw [hlen] at hld3
    simp only [T_eq2 A (n + 1)] at hld3 hap hcl ⊢
    have hl2 : ∀ a n e m s rs, (TL2 a n e m s rs).length = 12 := fun _ _ _ _ _ _ => rfl
    (repeat' first | (with_reducible first | apply Tot.of (qaa rfl) | apply Tot.of (qaq rfl) | apply Tot.of (qba rfl) | apply Tot.of (qa3 rfl) | apply Tot.of (qah rfl) | apply Tot.of (st_bnguard rfl) | apply Tot.of (qas rfl) | apply Tot.of (st_inl rfl) | apply Tot.of (st_guard rfl) | apply Tot.of (st_bngs rfl) | apply Tot.bql (b := true) | apply Tot.bql (b := false) | apply Tot.ift | apply Tot.iff) | ((conv => arg 2; arg 1; simp (disch := first | omega | assumption) only [qa1, qaf, lenSl_sl, Nat.zero_add, List.length_append, qai, List.length_map, hld3, T2_ld5, hsp1, hap, T2_st5, T2_rec, hl2]); (with_reducible first | apply Tot.of (qaa rfl) | (apply Tot.gtr; all_goals intro hsp))))
    · have he : encRow l = .sl .sh 3 (l.map encW) := by
        cases l with
        | nil => simp only [List.length_nil] at *; omega
        | cons w l => rfl
      have ha : addRow rows l = rows ++ [l] := by
        cases l with
        | nil => simp only [List.length_nil] at *; omega
        | cons w l => rfl
      have hcl2 := hcl (TL2 A.length (n + 1) (.sl (.own (A.length + 6) 0) 1 (rows.map encRow ++ [.sl (.own (A.length + 12 + 1) 0) 3 (l.map encW)])) (rows.length + 1) s .ready) rfl (fun i hi => by
        have hfix := TL_fix A.length (n + 1) (addRow rows l) s .ready i
        match i, hi with
        | 5, _ =>
          refine ⟨_, rfl, ?_⟩
          rw [ha]
          simp only [cells_shut, qar, shut_sl, qay, shutL_append, (plainRows rows).shut, (plainWs l).shut]
          rw [own_own _ (by omega), own_new _ (by omega), ← he]
          simp [TL]
        | 6, _ => exact ⟨_, rfl, by rw [ha]; simp [TL]⟩
        | 0, _ => exact ⟨_, rfl, by rw [hfix _ rfl]; rfl⟩
        | 1, _ => exact ⟨_, rfl, by rw [hfix _ rfl]; rfl⟩
        | 2, _ => exact ⟨_, rfl, by rw [hfix _ rfl]; rfl⟩
        | 3, _ => exact ⟨_, rfl, by rw [hfix _ rfl]; rfl⟩
        | 4, _ => exact ⟨_, rfl, by rw [hfix _ rfl]; rfl⟩
        | 7, _ => exact ⟨_, rfl, by rw [hfix _ rfl]; rfl⟩
        | 8, _ => exact ⟨_, rfl, by rw [hfix _ rfl]; rfl⟩
        | 9, _ => exact ⟨_, rfl, by rw [hfix _ rfl]; rfl⟩
        | 10, _ => exact ⟨_, rfl, by rw [hfix _ rfl]; rfl⟩
        | 11, _ => exact ⟨_, rfl, by rw [hfix _ rfl]; rfl⟩)
      (repeat' first | ((conv => arg 2; arg 1; simp (disch := first | omega | assumption) only [mL_cl, hcl2]); (with_reducible first | apply Tot.of (qaa rfl))))
      ((try conv => arg 2; simp (disch := first | omega | assumption) only []); refine Tot.ret ?_)
      rfl
    · have ha : addRow rows l = rows := by
        cases l with
        | nil => rfl
        | cons w l => simp only [List.length_cons] at *; omega
      have hcl2 := hcl (TL2 A.length (n + 1) (.sl (.own (A.length + 6) 0) 1 (rows.map encRow)) rows.length s .ready) rfl (fun i hi => by
        have hlt : i < (TL A.length (n + 1) rows s .ready).length := hi
        rw [ha]
        exact ⟨_, List.getElem?_eq_getElem hlt, by rw [TL_fix _ _ _ _ _ i _ (List.getElem?_eq_getElem hlt)]; exact List.getElem?_eq_getElem hlt⟩)
      (repeat' first | ((conv => arg 2; arg 1; simp (disch := first | omega | assumption) only [mL_cl, hcl2]); (with_reducible first | apply Tot.of (qaa rfl))))
      ((try conv => arg 2; simp (disch := first | omega | assumption) only []); refine Tot.ret ?_)
      rfl
end Go.Vm.Rx

/- What the program's reader of texts comes to. -/
namespace Go.Vm.Rx
open Go Go.Proofs P
set_option linter.unusedVariables false
set_option linter.unusedSimpArgs false
set_option maxRecDepth 10000
set_option maxHeartbeats 1000000
theorem s66 (s p : Str) (B : St) : f66 mL (Run Tryd.prog rxA) (Dcall Tryd.prog rxA) (.str s) (.str p) (.int .i64 0) B =
    some (.ret (.fn (.func 87) [] [.ref (B.length + 1) 0, .ref B.length 0, .ref (B.length + 2) 0]), B ++ [.cells [.str s], .cells [.str p], .cells [.int .i64 0]]) := by
  unfold f66
  refine Tot.eq ?_
  have hb : ∀ s (B : St), boxO false (.str s) B = some (.ref B.length 0, B ++ [.cells [.str s]]) := fun _ _ => rfl
  have hb2 : ∀ (B : St), boxO false (.int .i64 0) B = some (.ref B.length 0, B ++ [.cells [.int .i64 0]]) := fun _ => rfl
  (repeat' first | (with_reducible first | apply Tot.of (qak rfl)) | ((conv => arg 2; arg 1; simp (disch := first | omega | assumption) only [Nat.zero_add, List.length_append, List.length_cons, List.length_nil, app_one, qbj, qbc, Nat.reduceAdd, hb, hb2]); (with_reducible first | apply Tot.of (qaa rfl))))
  ((try conv => arg 2; simp (disch := first | omega | assumption) only [leave_keep]); refine Tot.ret ?_)
  simp
theorem s47 (s p : Str) (B : St) : f47 mL (Run Tryd.prog rxA) (Dcall Tryd.prog rxA) (.str s) (.str p) B =
    some (.ret (.fn (.func 87) [] [.ref (B.length + 1) 0, .ref B.length 0, .ref (B.length + 2) 0]), B ++ [.cells [.str s], .cells [.str p], .cells [.int .i64 0]]) := by
  unfold f47
  refine Tot.eq ?_
  (repeat' first | (with_reducible first | apply Tot.of (qas rfl) | apply Tot.of (qak rfl)) | ((conv => arg 2; arg 1; simp (disch := first | omega | assumption) only [qai, qag, qam, r66, s66]); (with_reducible first | apply Tot.of (qaa rfl))))
  ((try conv => arg 2; simp (disch := first | omega | assumption) only [leave_keep]); refine Tot.ret ?_)
  rfl
theorem seq87 (cap : List D) (k : Nat) (B : St) : seqCall Tryd.prog (Run Tryd.prog rxA) (.fn (.func 87) [] cap) k B = Run Tryd.prog rxA 87 (.yld false k :: cap) B := by
  unfold seqCall
  have h : (Tryd.prog.funcs[87]?).any fnOk = true := by kernel_rfl
  simp only [h]
  rfl
theorem s87 (A : St) (s : Str) (hs : s.length ≤ 100000000) (x : Except (Int × Int) (List (List Word))) (hx : rowsOf 1 ((splitNL s).1 :: (splitNL s).2) = some x) :
    Tot (walkOut A [] x) (f87 mL (Run Tryd.prog rxA) (Dcall Tryd.prog rxA) (.yld false (A.length + 11)) (.ref (A.length + 8) 0) (.ref (A.length + 7) 0) (.ref (A.length + 9) 0) (T A 0 [] s .ready)) := by
  have hlo := s87_loop (s0 := s) round_ok A (s.length + 1) s 0 [] x (by omega) (by simp; omega) (by omega) (by omega) hx
  have hlen1 : lenStrO (.str [10]) = some (.int .i64 1) := rfl
  unfold f87
  (repeat' first | (with_reducible first | apply Tot.of (qa3 rfl) | apply Tot.of (st_it rfl) | apply Tot.bql (b := false) | apply Tot.iff) | ((conv => arg 2; arg 1; simp (disch := first | omega | assumption) only [qai, T_ld8, hlen1]); (with_reducible first | apply Tot.of (qaa rfl) | (apply Tot.eql_f; omega))))
  exact hlo
theorem Kept4 {A L M : St} {s0 s1 s2 s3 t0 t1 t2 t3 : Slot} (h0 : ∀ n, t0.shut n = t0) (h1 : ∀ n, t1.shut n = t1) (h2 : ∀ n, t2.shut n = t2) (h3 : ∀ n, t3.shut n = t3) :
    Kept (A ++ (s0 :: s1 :: s2 :: s3 :: L)) (A ++ (t0 :: t1 :: t2 :: t3 :: (L ++ M))) ↔ True := by
  refine iff_true_intro (Kept_tail (by simp) fun i hi => ?_)
  match i, hi with
  | 0, _ => exact .inr ⟨_, rfl, h0 _⟩
  | 1, _ => exact .inr ⟨_, rfl, h1 _⟩
  | 2, _ => exact .inr ⟨_, rfl, h2 _⟩
  | 3, _ => exact .inr ⟨_, rfl, h3 _⟩
  | i + 4, hi =>
    left
    simp only [List.length_cons] at hi
    simp only [List.getElem?_cons_succ]
    rw [List.getElem?_append_left (by omega)]
theorem take4 {A L M : St} {s0 s1 s2 s3 t0 t1 t2 t3 : Slot} : (A ++ (t0 :: t1 :: t2 :: t3 :: (L ++ M))).take (A ++ (s0 :: s1 :: s2 :: s3 :: L)).length = A ++ (t0 :: t1 :: t2 :: t3 :: L) := by
  have e : A ++ (t0 :: t1 :: t2 :: t3 :: (L ++ M)) = (A ++ (t0 :: t1 :: t2 :: t3 :: L)) ++ M := by simp
  rw [e, List.take_append_of_le_length (by simp), List.take_of_length_le (by simp)]
theorem take4' {A L M : St} {t0 t1 t2 t3 : Slot} : (A ++ (t0 :: t1 :: t2 :: t3 :: (L ++ M))).take (A.length + (L.length + 1 + 1 + 1 + 1)) = A ++ (t0 :: t1 :: t2 :: t3 :: L) := by
  have := take4 (A := A) (L := L) (M := M) (s0 := .dead) (s1 := .dead) (s2 := .dead) (s3 := .dead) (t0 := t0) (t1 := t1) (t2 := t2) (t3 := t3)
  simpa [List.length_append, Nat.add_assoc] using this
theorem ifc_nil (t : TypeId) (d : D) : binO .eql 1 true (.iface t d) (.val .nilIface) = some (.bool false) := rfl
theorem dc46p (A L : St) (o0 o1 o2 o3 : D) (x y : Int) : Dcall Tryd.prog rxA (.fn (.func 46) [] [.ref A.length 0, .ref (A.length + 1) 0, .ref (A.length + 2) 0, .ref (A.length + 3) 0]) [] (some (.iface 93 (.agg [.int .i64 x, .int .i64 y])))
      (A ++ (.cells [o0] :: .cells [o1] :: .cells [o2] :: .cells [o3] :: L)) =
    some (none, A ++ (.cells [.sl .full 0 []] :: .cells [.int .i64 x] :: .cells [.int .i64 y] :: .cells [.int .i64 30] :: L)) := by
  rw [rd46p]
  unfold d46p
  have has : ∀ z d, assertV z (.iface 93 d) 93 true = some (.tup [d, .bool true]) := fun _ _ => rfl
  have hk := fun M => Kept4 (A := A) (L := L) (M := M) (s0 := .cells [o0]) (s1 := .cells [o1]) (s2 := .cells [o2]) (s3 := .cells [o3]) (t0 := .cells [.sl .full 0 []]) (t1 := .cells [.int .i64 x]) (t2 := .cells [.int .i64 y]) (t3 := .cells [.int .i64 30]) (fun n => by simp) (fun n => by simp) (fun n => by simp) (fun n => by simp)
  refine Tot.eq ?_
  (repeat' first | (with_reducible first | apply Tot.of (qa3 rfl) | apply Tot.of (st_gs rfl) | apply Tot.of (st_gk rfl) | apply Tot.bql (b := false) | apply Tot.iff) | ((conv => arg 2; arg 1; simp (disch := first | omega | assumption) only [qaf, qa4, ofCellsS, Nat.zero_add, Nat.add_zero, qa6, lay_int, lay_sl, List.length_append, List.length_cons, un_not, Bool.not_true, and_self, qaz, qai, app_one, qbc, ld_sh, qa9, ldc0, ldcS, sto_sh, sto_sh0, stoc0, stocS, ext0, extS, lay_ii, sameAd_ref, get_sh, List.getElem?_cons_succ, ifc_nil, has, hk]); (with_reducible first | apply Tot.of (qaa rfl) | apply Tot.of (st_guard rfl))))
  conv => arg 2; simp (disch := first | omega | assumption) only [List.length_append, List.length_cons, take4']
  exact Tot.ret rfl
theorem dc46n (a b c d : D) (S : St) : Dcall Tryd.prog rxA (.fn (.func 46) [] [a, b, c, d]) [] none S = some (none, S) := by
  rw [rd46n]
  unfold d46n
  have hn : negIf false true = .bool true := rfl
  refine Tot.eq ?_
  (repeat' first | (with_reducible first | apply Tot.of (st_gk rfl) | apply Tot.ift) | ((conv => arg 2; arg 1; simp (disch := first | omega | assumption) only [qa2, hn]); (with_reducible first | apply Tot.of (st_guard rfl) | apply Tot.bql (b := true))))
  ((try conv => arg 2; simp (disch := first | omega | assumption) only [List.take_length]); refine Tot.ret ?_)
  rfl
theorem tok_rows (A : St) (c0 c1 c2 c3 c4 : Slot) : tokO [(0, 1)] (.ref (A.length + 5) 0) (A ++ [c0, c1, c2, c3, c4, .cells [.sl .full 0 []]]) =
    some (.ref (A.length + 5) 0, A ++ [c0, c1, c2, c3, c4, .cells [.sl (.own (A.length + 6) 0) 1 []], .tok 0]) := by
  unfold tokO tokD
  simp only [get_sh]
  simp [tokCells, tokCell]
theorem s26 (s : Str) (hs : s.length ≤ 1048576) (x : Except (Int × Int) (List (List Word))) (hx : rowsOf 1 ((splitNL s).1 :: (splitNL s).2) = some x) (A : St) : f26 mL (Run Tryd.prog rxA) (Dcall Tryd.prog rxA) (.str s) A = some (.ret (linesRes [] x), A) := by
  have hwalk := s87 A s (by omega) x hx
  have hstart : A ++ [Slot.cells [D.sl Own.full 0 []], Slot.cells [D.int .i64 0], Slot.cells [D.int .i64 0], Slot.cells [D.int .i64 0], Slot.cells [D.int .i64 0], Slot.cells [D.sl (.own (A.length + 6) 0) 1 []], Slot.tok 0] ++
      [Slot.cells [D.str s], Slot.cells [D.str [10]], Slot.cells [D.int .i64 0]] ++
      [Slot.dfb, Slot.loop 26 [D.any, D.any, D.any, D.any, D.any, D.any, D.ref (A.length + 4) 0, D.ref (A.length + 5) 0, D.any, D.any, D.any, D.any, D.any, D.any, D.any, D.any, D.any, D.any,
        D.any, D.any, D.any, D.any, D.any, D.any, D.any, D.any, D.any, D.any, D.any, D.any, D.any, D.any, D.any, D.any, D.any, D.any, D.any, D.any, D.any, D.any] (rfAt Tryd.prog 26 8) RSt.ready] = T A 0 [] s .ready := by
    rw [List.append_assoc, List.append_assoc]
    rfl
  have hyc : ∀ k, (D.yld false k).canon = .yld false k := fun _ => rfl
  unfold f26
  dsimp only []
  refine Tot.eq ?_
  (repeat' first | (with_reducible first | apply Tot.of (qa3 rfl) | apply Tot.of (qas rfl) | apply Tot.bql (b := false) | apply Tot.iff) | ((conv => arg 2; arg 1; simp (disch := first | omega | assumption) only [qbk, Nat.zero_add, qa6, lay_int, List.length_append, List.length_cons, List.length_nil, qaz, qai, qam, app_one, qbj, qbc, sto_sh, stoc0, stocS, Nat.reduceAdd, tok_rows, r47, s47, Nat.add_assoc]); (with_reducible first | apply Tot.of (qaa rfl) | (apply Tot.gtr_f; omega))))
  conv => arg 2; arg 1; simp (disch := first | omega | assumption) only [Nat.zero_add, List.length_append, List.length_cons, List.length_nil, qbg, Nat.reduceAdd, seq87, r87, Nat.add_assoc, hstart, hyc]
  refine Tot.bn hwalk fun r hr => ?_
  have hset : ∀ (L : St) (i : Nat) (x : Slot), (A ++ L).set (A.length + i) x = A ++ L.set i x := fun L i x => set_sh A L i x
  cases x with
  | error a =>
    obtain ⟨n', rows', s', rfl⟩ := hr
    have hdf : (T A n' rows' s' .busy)[A.length + 10]? = some .dfb := get_sh _ _ _
    have hm := fun dc res r p => leaves_mark dc res (A.length + 10) [] r p (T A n' rows' s' .busy) hdf
    obtain ⟨M, hM⟩ : ∃ M, (T A n' rows' s' .busy).set (A.length + 10) .dead = A ++ (.cells [.sl .full 0 []] :: .cells [.int .i64 0] :: .cells [.int .i64 0] :: .cells [.int .i64 0] :: M) := ⟨_, by unfold T; rw [set_sh]; rfl⟩
    (repeat' first | (with_reducible first | apply Tot.of (st_pan rfl) | apply Tot.of (qak rfl)) | ((conv => arg 2; arg 1; simp (disch := first | omega | assumption) only [Option.map_some, Option.bind_some, qal, leaves_cons, qa4, Nat.zero_add, packD, List.length_append, List.length_cons, List.length_nil, qaz, ld_sh, qa9, ldc0, ldcS, Nat.reduceAdd, hm, Nat.add_assoc, hM, dc46p]); (with_reducible first | apply Tot.of (qaa rfl))))
    ((try conv => arg 2; simp (disch := first | omega | assumption) only [qac, qao, shut_sl, shut_tup, qay, qar, own_full, qaj, qad, qag, canon_tup, qat, qan, canon_nil, qab, qae, List.take_left']); refine Tot.ret ?_)
    rfl
  | ok l =>
    obtain ⟨n', s', rfl⟩ := hr
    have hend := end_ready (T_ready (A := A) (n := n') (rows := [] ++ l) (s := s'))
    have hld7 : loadO false 1 (.ref (A.length + 5) 0) ((T A n' ([] ++ l) s' .ready).set (A.length + 11) .dead) = some (.sl (.own (A.length + 6) 0) 1 (l.map encRow)) := by
      unfold T; rw [set_sh, ld_sh]; rfl
    obtain ⟨M, hM⟩ : ∃ M, (T A n' ([] ++ l) s' .ready).set (A.length + 11) .dead = A ++ (.cells [.sl .full 0 []] :: .cells [.int .i64 0] :: .cells [.int .i64 0] :: .cells [.int .i64 0] :: M) ∧ M[6]? = some .dfb := ⟨_, by unfold T; rw [set_sh]; rfl, rfl⟩
    obtain ⟨hM, hM6⟩ := hM
    have hdf : ∀ a b c d : Slot, (A ++ (a :: b :: c :: d :: M))[A.length + 10]? = some .dfb := fun a b c d => by rw [get_sh]; exact hM6
    have hm := fun dc res r p a b c d => leaves_mark dc res (A.length + 10) [] r p (A ++ (a :: b :: c :: d :: M)) (hdf a b c d)
    have hs10 : ∀ a b c d x : Slot, (A ++ (a :: b :: c :: d :: M)).set (A.length + 10) x = A ++ (a :: b :: c :: d :: M.set 6 x) := fun a b c d x => by rw [set_sh]; rfl
    rw [hM] at hend hld7
    (repeat' first | (with_reducible first | apply Tot.of (qa3 rfl) | apply Tot.of (qas rfl) | apply Tot.of (qak rfl) | apply Tot.of (st_seqK rfl)) | ((conv => arg 2; arg 1; simp (disch := first | omega | assumption) only [Option.map_some, Option.bind_some, qal, leaves_cons, qa4, Nat.zero_add, lay_int, lay_sl, packD, List.length_append, List.length_cons, List.length_nil, qa5, qbe, qaz, qai, ld_sh, qa9, ldc0, ldcS, sto_sh, sto_sh0, stoc0, stocS, Nat.reduceAdd, hend, Nat.add_assoc, hld7, hm, hs10, dc46n]); (with_reducible first | apply Tot.of (qaa rfl))))
    ((try conv => arg 2; simp (disch := first | omega | assumption) only [qac, qao, shut_sl, shut_tup, qay, qar, own_new, qaj, qad, qag, canon_tup, qat, qan, qab, qae, List.take_left']); refine Tot.ret ?_)
    simp only [(plainRows l).shut, canon_sl (plainRows l)]
    rfl
end Go.Vm.Rx
