/- RxS69, RxS66 in one text. -/
import Derived.Test.YtagmpieoalkneaaGreatDoorVmVs
import Derived.Test.YtagmpieoalkneaaGreatDoorRxI3
import Derived.Test.YtagmpieoalkneaaGreatDoorRxOk
set_option linter.all false
/- The program's reader of a line: the devices. -/
namespace Go.Vm.Rx
open Go Go.Proofs P
set_option maxRecDepth 10000
set_option maxHeartbeats 4000000
theorem bsGo_same {f g : Nat → Bool} {hi : Nat} (h : ∀ t, t < hi → f t = g t) : ∀ (n lo hi' : Nat), hi' ≤ hi → Lib.bsGo f n lo hi' = Lib.bsGo g n lo hi'
  | 0, _, _, _ => rfl
  | n + 1, lo, hi', hh => by
    unfold Lib.bsGo
    by_cases hlt : lo < hi'
    · rw [if_pos hlt, if_pos hlt, h _ (by omega), bsGo_same h n _ _ hh, bsGo_same h n _ _ (by omega)]
    · rw [if_neg hlt, if_neg hlt]
theorem bsAt_eq {acc : List Str} (hr : Rise acc) (s : Str) : bsAt acc s = posS s acc := by
  unfold bsAt
  rw [bsGo_same (hi := acc.length) (g := fun t => decide (t < posS s acc)) (fun t ht => by
    rw [Go.Proofs.bytesLess_eq]
    by_cases h : t < posS s acc
    · rw [decide_eq_true h, decide_eq_true (posS_lt s acc t h)]
    · rw [decide_eq_false h, decide_eq_false (posS_ge s acc t hr (by omega) ht)]) _ _ _ (Nat.le_refl _)]
  exact Lib.bsGo_spec _ _ (fun t h => decide_eq_true h) (fun t h => decide_eq_false (by omega)) _ _ _ (by omega) (by omega) (posS_le s acc)
theorem bsIs_eq {acc : List Str} (hr : Rise acc) (s : Str) : bsIs acc s = decide (posS s acc < acc.length ∧ acc.getD (posS s acc) [] = s) := by
  unfold bsIs; rw [bsAt_eq hr]
def ipRes {α : Type} (f : α → D) (A : St) (k : Nat) (l : List Word) : Except (Nat × Int) (α × Nat) → Res × St → Prop
  | .ok (x, j), r => r = (.ret (f x), st A k (ipC l j))
  | .error (j, e), r => ∃ i' : Int, r = (.pan (.iface 55 (.agg [.int .i64 (wordW l j).line, .int .i64 (wordW l j).col, .int .i64 e])), st A k (ipC l i'))
theorem leave_frzS {A0 A1 S : St} {v m : Nat} {xs : List Str} (hk : Kept A0 S) (ht : S.take A0.length = A1) (h : TRow S v xs) (hA : A0.length ≤ v) (hm : m = xs.length) :
    leaveD .frz A0 (.ret (.vsl v 0 1 m)) S = some (.ret (encL 1 (xs.map .str)), A1) := by
  subst hm
  have e : ((D.vsl v 0 1 xs.length).frz A0.length S) = .sl .sh 1 (xs.map .str) := by
    simp only [D.frz, D.mapV, if_neg (Nat.not_lt.2 hA)]
    unfold frzV
    rw [h]
    simp only [List.drop_zero]
    rw [rowV_one _ _ (by simp), ← List.map_take, List.take_of_length_le (Nat.le_refl _), mapVL_str]
  simp only [leaveD, Res.frz, e, Res.canon, guardP_true hk, ht]
  congr 3
  unfold encL
  simp only [D.canon, canonL_str]
  cases xs with
  | nil => rfl
  | cons x r => rfl
theorem leave_frzP {A0 S : St} {t : TypeId} {a b c : Int} : leaveD .frz A0 (.pan (.iface t (.agg [.int .i64 a, .int .i64 b, .int .i64 c]))) S = guardP (Kept A0 S) (some (.pan (.iface t (.agg [.int .i64 a, .int .i64 b, .int .i64 c])), S.take A0.length)) := by
  simp [leaveD, Res.frz, D.frz, D.mapV, D.mapVL, Res.canon, D.canon, D.canonL]
section
variable (A : St) (k : Nat) (hk : k < A.length) (cs : List D) (L : St) (j : Nat) (acc : List Str)
include hk
theorem st_row (x : List D) (hj : j < L.length) : (st (A ++ L) k x)[A.length + j]? = L[j]? := by
  rw [st_other (by omega), List.getElem?_append_right (by omega)]; congr 1; omega
theorem search_st (hL : L[j]? = some (Slot.cells (acc.map .str))) (hr : Rise acc) (hb : acc.length ≤ 1000) (s : Str) : Run Tryz.prog rxA 109 [.vsl (A.length + j) 0 1 acc.length, .str s] (st (A ++ L) k cs) = some (.ret (.tup [.int .i64 (posS s acc : Nat), .bool (decide (posS s acc < acc.length ∧ acc.getD (posS s acc) [] = s))]), st (A ++ L) k cs) := by
  have hj : j < L.length := (List.getElem?_eq_some_iff.1 hL).1
  rw [Run_ext _ _ (by decide) rfl]
  have := onStrs_run (k := A.length + j) (A := st (A ++ L) k cs) (F := fun ss => some (.ret (.tup [.int .i64 (bsAt ss s : Nat), .bool (bsIs ss s)]), st (A ++ L) k cs)) (by rw [st_row A k hk L j cs hj]; exact hL) rfl (by omega)
  refine Eq.trans this ?_
  rw [bsIs_eq hr, bsAt_eq hr]
theorem insert_st (hL : L[j]? = some (Slot.cells (acc.map .str))) (hb : acc.length ≤ 1000) (p : Nat) (hp : p ≤ acc.length) (s : Str) : Run Tryz.prog rxA 110 [.vsl (A.length + j) 0 1 acc.length, .int .i64 (p : Nat), .vsl (A.length + L.length) 0 1 1] (st (A ++ (L ++ [Slot.cells [.str s]])) k cs) =
    some (.ret (.vsl (A.length + (L.length + 1)) 0 1 (acc.length + 1)), st (A ++ ((L ++ [Slot.cells [.str s]]).set j .dead ++ [Slot.cells ((acc.take p ++ s :: acc.drop p).map .str)])) k cs) := by
  have hj : j < L.length := (List.getElem?_eq_some_iff.1 hL).1
  have h1 : (st (A ++ (L ++ [Slot.cells [.str s]])) k cs)[A.length + j]? = some (.cells (acc.map .str)) := by
    rw [st_row A k hk _ j cs (by simp; omega), List.getElem?_append_left hj]; exact hL
  have h2 : (st (A ++ (L ++ [Slot.cells [.str s]])) k cs)[A.length + L.length]? = some (.cells [.str s]) := by
    rw [st_row A k hk _ L.length cs (by simp)]; simp
  rw [Run_ext _ _ (by decide) rfl]
  show insX _ _ = _
  unfold insX
  simp only [h1, h2, Option.bind_some]
  rw [if_pos ⟨trivial, trivial, trivial, trivial, trivial, by omega, by omega, by omega, by omega⟩, if_pos (by simp), strsOf_map]
  simp only [Option.map_some, Int.toNat_natCast]
  congr 3
  · simp [qak]
  · unfold st
    rw [List.set_comm _ _ (by omega), List.set_append_right _ _ (by omega), Nat.add_sub_cancel_left, ← List.append_assoc A]
    exact (List.set_append_left _ _ (by rw [List.length_append]; omega)).symm
end
theorem len_vsl (k o e n : Nat) : lenSlO (.vsl k o e n) = some (.int .i64 n) := rfl
theorem s65_loop (A : St) (k : Nat) (l : List Word) (hl : LineOk l) (hk : k < A.length) (i0 : Int) : ∀ (f i : Nat) (acc : List Str) (L : St) (j : Nat), l.length < i + f → i ≤ l.length → Rise acc → acc.length ≤ 256 → L[j]? = some (Slot.cells (acc.map .str)) →
    Tot (ipRes (fun x : List Str => encL 1 (x.map .str)) A k l (ingP l f acc i)) (LP Tryz.prog rxA 65 [0, 1, 1] [(st A k (ipC l i0))] (Env.mk (sp [(0, .ref k 0), (2, .vsl (A.length + j) 0 1 acc.length)] 60) []) (st (A ++ L) k (ipC l i))) := by
  have hlen := hl.len
  intro f
  induction f with
  | zero => intro i acc L j h1 h2; omega
  | succ f ih =>
    intro i acc L j h1 h2 hr hac hL
    have hj : j < L.length := (List.getElem?_eq_some_iff.1 hL).1
    have hkp := fun L j => stL_Kept (A := A) (k := k) (cs := ipC l i0) (cs' := ipC l j) (L := L) (ipC_shut _ _ _)
    have hwd := fun L => s64 (A ++ L) k l hl i (lenL hk) (by omega)
    have hsh := hl.at_ i
    have hnm := fun A => s34 (wordAt l i) (by omega) A
    have hst := fun L e => s28 (A ++ L) k l hl i e (lenL hk) (by omega)
    have hf : fieldO false 0 1 (encW (wordW l i)) = some (.str (wordAt l i)) := by rw [fld0, wordW_t]
    refine qbj (q65_0 ..) ?_
    unfold n65_0; dsimp only
    by_cases hn : isName (wordAt l i) = true
    · have hi1 := qb3 (l := l) (i := i) (isName_ne hn)
      rw [hn] at hnm
      have hse := search_st A k hk (ipC l i) L j acc hL hr (by omega) (wordAt l i)
      have hins := insert_st A k hk (ipC l i) L j acc hL (by omega) (posS (wordAt l i) acc) (posS_le _ _) (wordAt l i)
      have hpl := putS_len (wordAt l i) acc
      have hpr := Rise_put (wordAt l i) acc hr
      have hput := putS_eq (wordAt l i) acc
      have hwd1 := fun L => s64 (A ++ L) k l hl (i + 1) (lenL hk) (by omega)
      have hf1 : fieldO false 0 1 (encW (wordW l (i + 1))) = some (.str (wordAt l (i + 1))) := by rw [fld0, wordW_t]
      simp only [Int.natCast_add, Int.natCast_one] at hwd1
      by_cases hin : posS (wordAt l i) acc < acc.length ∧ acc.getD (posS (wordAt l i) acc) [] = wordAt l i
      · rw [if_pos hin] at hput
        rw [decide_eq_true hin] at hse
        by_cases h3 : wordAt l (i + 1) = [44]
        · rw [ingP_go hn (by rw [hput]; omega) h3, hput]
          have hi2 := qb3 (l := l) (i := i + 1) (by rw [h3]; simp)
          have hnx := ih (i + 1 + 1) acc L j (by omega) (by omega) hr hac hL
          simp only [Int.natCast_add, Int.natCast_one] at hnx
          (repeat' first | (with_reducible first | (apply qbk; intro hkk hke) | (apply qbu; · assumption) | apply qa2 | apply qaw | apply qaa (b := false) | apply qaq | (apply tot_gtr_f; omega) | (apply tot_sneq_t; first | assumption | with_reducible rfl)) | ((conv => arg 2; arg 1; simp (disch := first | omega | assumption) only [qa1, qa0, qai, qaf, Nat.zero_add, Nat.add_zero, un_not, Bool.not_true, qa4, qbc, qa9, qaz, qas, qan, ext0, extS, eg_0, eg_S, qb5, qcj, ipl1, ips1, r64, hwd, hf, hwd1, hf1, r34, hnm, hse, len_vsl]); (with_reducible apply qad)))
          conv => arg 2; simp only [qa4, qbc, qa9, eg_0, eg_S]
          exact hnx
        · rw [ingP_end hn (by rw [hput]; omega) h3, hput]
          have hlv := fun x => leave_frzS (A0 := st A k (ipC l i0)) (S := st (A ++ L) k (ipC l x)) (xs := acc) ((hkp L x).2 trivial) (by rw [qak, qbv hk]) (by unfold TRow; rw [st_row A k hk L j _ hj]; exact hL) (by rw [qak]; omega) rfl
          (repeat' first | (with_reducible first | (apply qbk; intro hkk hke) | (apply qbu; · assumption) | apply qa2 | apply qaw | apply qaj | apply qaa (b := true) | apply qaa (b := false) | apply qar | apply qaq | (apply tot_gtr_f; omega) | (apply tot_sneq_f; first | assumption | decide | exact List.cons_ne_nil _ _)) | ((conv => arg 2; arg 1; simp (disch := first | omega | assumption) only [Option.map_some, qa1, qa0, qao, qai, qaf, Nat.zero_add, Nat.add_zero, un_not, Bool.not_true, qa4, qbc, qa9, qaz, qas, qan, ext0, extS, eg_0, eg_S, qb5, qcj, ipl1, ips1, r64, hwd, hf, hwd1, hf1, r34, hnm, hse, len_vsl]); (with_reducible apply qad)))
          conv => arg 2; simp (disch := first | omega | assumption) only [hlv]
          exact ⟨_, rfl, rfl⟩
      · rw [if_neg hin] at hput
        rw [decide_eq_false hin] at hse
        rw [← hput] at hins
        have hpl2 : (putS (wordAt l i) acc).length = acc.length + 1 := by rw [hput]; simp; have := posS_le (wordAt l i) acc; omega
        have hcn : ∀ S, litO 1 false 1 [(0, .str (wordAt l i))] S = some (.vsl S.length 0 1 1, S ++ [.cells [.str (wordAt l i)]]) := fun S => rfl
        have hL2 : ((L ++ [Slot.cells [.str (wordAt l i)]]).set j .dead ++ [Slot.cells ((putS (wordAt l i) acc).map .str)])[L.length + 1]? = some (Slot.cells ((putS (wordAt l i) acc).map .str)) := by
          rw [List.getElem?_append_right (by simp)]; simp
        by_cases hm : 256 < (putS (wordAt l i) acc).length
        · rw [ingP_many hn hm]
          (repeat' first | (with_reducible first | (apply qbk; intro hkk hke) | (apply qbu; · assumption) | apply qaw | apply tp_pan | apply qaj | apply qaa (b := true) | apply qaa (b := false) | apply qar | apply qaq | (apply tot_gtr_t; omega)) | ((conv => arg 2; arg 1; simp (disch := first | omega | assumption) only [leaves_pan, qai, qaf, Nat.add_zero, List.length_append, un_not, Bool.not_true, Bool.not_false, qa4, qbc, qa9, qah, qas, qan, qak, ext0, extS, eg_0, eg_S, stL_appr, r64, hwd, hf, r34, hnm, hse, len_vsl, hcn, tok_vv, hins, r28, hst]); (with_reducible apply qad)))
          conv => arg 2; simp (disch := first | omega | assumption) only [qac, qak, qbv, leave_frzP, hkp]
          exact ⟨_, rfl, i, rfl⟩
        · by_cases h3 : wordAt l (i + 1) = [44]
          · rw [ingP_go hn hm h3]
            have hi2 := qb3 (l := l) (i := i + 1) (by rw [h3]; simp)
            have hnx := ih (i + 1 + 1) (putS (wordAt l i) acc) _ (L.length + 1) (by omega) (by omega) hpr (by omega) hL2
            rw [hpl2] at hnx
            simp only [Int.natCast_add, Int.natCast_one] at hnx
            (repeat' first | (with_reducible first | (apply qbk; intro hkk hke) | (apply qbu; · assumption) | apply qa2 | apply qaw | apply qaa (b := true) | apply qaa (b := false) | apply qar | apply qaq | (apply tot_gtr_f; omega) | (apply tot_sneq_t; first | assumption | with_reducible rfl)) | ((conv => arg 2; arg 1; simp (disch := first | omega | assumption) only [qa1, qa0, qai, qaf, Nat.zero_add, Nat.add_zero, List.length_append, un_not, Bool.not_true, Bool.not_false, qa4, qbc, qa9, qaz, qas, qan, qak, ext0, extS, eg_0, eg_S, qb5, qcj, stL_appr, ipl1, ips1, r64, hwd, hf, hwd1, hf1, r34, hnm, hse, len_vsl, hcn, tok_vv, hins]); (with_reducible apply qad)))
            conv => arg 2; simp only [qa4, qbc, qa9, eg_0, eg_S]
            exact hnx
          · rw [ingP_end hn hm h3]
            have hlv := fun x => leave_frzS (m := acc.length + 1) (v := A.length + (L.length + 1)) (A0 := st A k (ipC l i0)) (S := st (A ++ ((L ++ [Slot.cells [.str (wordAt l i)]]).set j .dead ++ [Slot.cells ((putS (wordAt l i) acc).map .str)])) k (ipC l x)) (xs := putS (wordAt l i) acc) ((hkp _ x).2 trivial) (by rw [qak, qbv hk]) (by unfold TRow; rw [st_row A k hk _ (L.length + 1) _ (by simp)]; exact hL2) (by rw [qak]; omega) hpl2.symm
            (repeat' first | (with_reducible first | (apply qbk; intro hkk hke) | (apply qbu; · assumption) | apply qa2 | apply qaw | apply qaj | apply qaa (b := true) | apply qaa (b := false) | apply qar | apply qaq | (apply tot_gtr_f; omega) | (apply tot_sneq_f; first | assumption | decide | exact List.cons_ne_nil _ _)) | ((conv => arg 2; arg 1; simp (disch := first | omega | assumption) only [Option.map_some, qa1, qa0, qao, qai, qaf, Nat.zero_add, Nat.add_zero, List.length_append, un_not, Bool.not_true, Bool.not_false, qa4, qbc, qa9, qaz, qas, qan, qak, ext0, extS, eg_0, eg_S, qb5, qcj, stL_appr, ipl1, ips1, r64, hwd, hf, hwd1, hf1, r34, hnm, hse, len_vsl, hcn, tok_vv, hins]); (with_reducible apply qad)))
            conv => arg 2; simp (disch := first | omega | assumption) only [hlv]
            exact ⟨_, rfl, rfl⟩
    · rw [ingP_no hn]
      simp only [Bool.not_eq_true] at hn
      rw [hn] at hnm
      (repeat' first | (with_reducible first | (apply qbk; intro hkk hke) | apply qaw | apply tp_pan | apply qaj | apply qaa (b := true) | apply qar) | ((conv => arg 2; arg 1; simp (disch := first | omega | assumption) only [leaves_pan, qai, qaf, Nat.add_zero, un_not, Bool.not_false, qa4, qbc, qa9, sp_gn, qah, qas, qan, r64, hwd, hf, r34, hnm, r28, hst]); (with_reducible apply qad)))
      conv => arg 2; simp (disch := first | omega | assumption) only [qac, qak, qbv, leave_frzP, hkp]
      exact ⟨_, rfl, i, rfl⟩
end Go.Vm.Rx

/- The reference's reader of a line: from the devices on. -/
namespace Go.Vm.Rx
open Go Go.Proofs P
set_option maxRecDepth 10000
set_option maxHeartbeats 4000000
def ivF (nm pk : Str) (ig : D) (h c n : Int) (r : Rx) : List D := [.str nm, .str pk, ig, .int .i64 h, .int .i64 c, .int .i64 n, .int .i64 r.op, .str r.nm, encL 3 (r.ks.map encRx)]
section
variable (nm pk nm' pk' : Str) (ig ig' : D) (h c n h' c' n' : Int) (r : Rx)
theorem ivlA : ofCells true (ivX nm pk ig h c n) 0 9 = some (.agg (ivX nm pk ig h c n)) := rfl
theorem ivlF : ofCells true (ivF nm pk ig h c n r) 0 9 = some (.agg (ivF nm pk ig h c n r)) := rfl
theorem ivsA (hc : ig.cell?.isSome = true) : layCells true 9 0 (ivX nm' pk' ig' h' c' n') (.agg (ivX nm pk ig h c n)) = some (ivX nm pk ig h c n) := by
  have e : allCells (ivX nm pk ig h c n) = true := by unfold ivX allCells; rw [List.all_cons, List.all_cons, List.all_cons, hc]; rfl
  simp only [layCells, D.cellsT, D.agg?, Option.bind_some, e, cond_true]
  rfl
theorem ivsF (hc : ig.cell?.isSome = true) : layCells true 9 0 (ivX nm' pk' ig' h' c' n') (.agg (ivF nm pk ig h c n r)) = some (ivF nm pk ig h c n r) := by
  have e : allCells (ivF nm pk ig h c n r) = true := by unfold ivF allCells; rw [List.all_cons, List.all_cons, List.all_cons, hc]; rfl
  simp only [layCells, D.cellsT, D.agg?, Option.bind_some, e, cond_true]
  rfl
theorem ivs6 : layCells true 3 6 (ivX nm pk ig h c n) (encRx r) = some (ivF nm pk ig h c n r) := by
  simp only [layCells, rx_cell, Option.bind_some]
  rfl
theorem ivX_can {L : List Str} (hg : ig.canon = encL 1 (L.map .str)) : D.canonL (ivX nm pk ig h c n) = ivC ⟨nm, pk, L, h, c, n, .mk 0 [] []⟩ := by
  simp only [ivX, qat, qas, qah, hg]
  rfl
theorem ivF_shut (hs : ∀ m, ig.shut m = ig) (m : Nat) : D.shutL m (ivF nm pk ig h c n r) = ivF nm pk ig h c n r := by simp [ivF, hs, rxs_shut]
theorem ivF_can {L : List Str} (hg : ig.canon = encL 1 (L.map .str)) : D.canonL (ivF nm pk ig h c n r) = ivC ⟨nm, pk, L, h, c, n, r⟩ := by
  simp only [ivF, qat, qas, qah, hg, rxs_canon]
  rfl
end
def lineOut (A : St) (k : Nat) (l : List Word) (x : Except (Nat × Int) Iv) (r : Res × St) : Prop := match x with
  | .ok v => ∃ j : Nat, j ≤ 200000000 ∧ r = (.ret (encIv v), st A k (irC l j 0 0 0))
  | .error (j, e) => ∃ (v : Iv) (i' : Nat), i' ≤ 200000000 ∧ e ≠ 0 ∧ r = (.ret (encIv v), st A k (irC l i' (wordW l j).line (wordW l j).col e))
theorem s30_loop (A : St) (k : Nat) (l : List Word) (hl : LineOk l) (hk : k < A.length) (nm pk : Str) : ∀ (f i : Nat) (acc : List Str) (ig y : D), l.length < i + f → i ≤ l.length → ig.canon = encL 1 (acc.map .str) → (∀ m, ig.shut m = ig) → ig.cell?.isSome = true → acc.length ≤ 256 →
    Tot (lineOut A k l ((ingP l f acc i).bind fun x => tail2P l nm pk x.1 x.2)) (LP Tryz.prog rxA 30 [0, 0, 1, 1, 1, 1, 1, 1, 1, 1] [(st A k (irC l 0 0 0 0))] (Env.mk (sp [(0, .ref k 0), (1, .ref A.length 0), (0, .ref (A.length + 1) 0), (0, .int .i64 120), (35, y)] 126) []) (st (A ++ [.cells (ivX [] [] (.sl .full 0 []) 0 0 0), .cells (ivX nm pk ig 0 0 0)]) k (irC l i 0 0 0))) := by
  have hlen := hl.len
  intro f
  induction f with
  | zero => intro i acc ig y h1 h2; omega
  | succ f ih =>
    intro i acc ig y h1 h2 hg hgs hgc hac
    have hkp := fun L j x y z => stL_Kept (A := A) (k := k) (cs := irC l 0 0 0 0) (cs' := irC l j x y z) (L := L) (irC_shut _ _ _ _ _ _)
    have hkp2 := fun g g' j x y z (hg' : ∀ m, g'.shut m = g') => stLL2_Kept (A := A) (k := k) (s0 := .cells (ivX [] [] (.sl .full 0 []) 0 0 0)) (s1 := .cells (ivX nm pk g 0 0 0)) (t1 := .cells (ivX nm pk g' 0 0 0)) (cs := irC l i 0 0 0) (cs' := irC l j x y z) (fun n => irC_shut _ _ _ _ _ _) (fun n => by simp [ivX_shut nm pk g' 0 0 0 hg']) hk
    have htk := fun cs s => stLL2_take (A := A) (k := k) (cs := cs) (s0 := .cells (ivX [] [] (.sl .full 0 []) 0 0 0)) (s1 := s)
    have hmb := fun L i ln cl b s => s70_bad (A ++ L) k l i ln cl b 120 s (lenL hk)
    have hgk : ∀ L x, (st (A ++ L) k x)[k]? = some (.cells x) := fun L x => st_k _ (lenL hk)
    have hg1 : ∀ L x, (st (A ++ L) k x)[A.length + 1]? = (A ++ L)[A.length + 1]? := fun L x => st_other (by omega)
    have hnm := fun L => s71 (A ++ L) k l hl i (lenL hk) (by omega)
    have hput := fun A => s73 (wordAt l i) acc (by omega) A
    have hpl := putS_len (wordAt l i) acc
    have hlm : ((List.map D.str (putS (wordAt l i) acc)).length : Int) = ((putS (wordAt l i) acc).length : Int) := by simp
    have hps := str_shut (putS (wordAt l i) acc) 1
    have hpc := str_canon (putS (wordAt l i) acc) 1
    have hpe : (encL 1 ((putS (wordAt l i) acc).map .str)).cell?.isSome = true := rfl
    have hfs := fun h c n m => ivX_shut nm pk (encL 1 ((putS (wordAt l i) acc).map .str)) h c n hps m
    have hfc := fun h c n => ivX_can nm pk (encL 1 ((putS (wordAt l i) acc).map .str)) h c n hpc
    have hsA := fun h c n => ivsA nm pk [] [] (encL 1 ((putS (wordAt l i) acc).map .str)) (.sl .full 0 []) h c n 0 0 0 hpe
    refine qbj (q30_0 ..) ?_
    unfold n30_0; dsimp only
    by_cases hn : isName (wordAt l i) = true
    · by_cases hm : 256 < (putS (wordAt l i) acc).length
      · rw [ingP_many hn hm]
        simp only [hn, if_true] at hnm
        have hfl := fun L => s32 (A ++ L) k l hl i 0 0 3 (lenL hk) (by omega)
        (repeat' first | (with_reducible first | (apply qbk; intro hkk hke) | (apply qbu; · assumption) | apply qad | apply qa2 | apply qbd | apply qaw | apply tp_gs0 | apply tp_gs1 | apply qaj | apply qav (b := true) | apply qaa (b := true) | apply qaa (b := false) | apply qar | apply qaq | apply qb4 | apply tot_iftf | (apply tot_gtr_t; omega) | (apply qbz; omega) | (apply qb8; omega) | (apply tot_neq_f; omega)) | ((conv => arg 2; arg 1; simp (disch := first | omega | assumption) only [qcb, qbb, Option.map_some, qao, qai, qaf, Nat.zero_add, qa4, qbc, qa9, qaz, qah, qas, qan, qbt, ld_sh, qb1, ldc0, ldcS, qca, qb6, qcg, stocS, List.length_map, sameAd_ref, get_sh, List.getElem?_cons_succ, eg_0, eg_S, qb5, qcj, st_ldo, qcc, irl4, irl1, ivl2, r71, hnm, hg, r73, hput, hg1, ivs2, irs1, r32, hfl, r70, hmb, ivlA, hsA]); (with_reducible first | apply qad | apply qbf | apply qaa (b := true))))
        ((try conv => arg 2; simp (disch := first | omega | assumption) only [qac, qb2, qae, qbp, qab, qag, qak, qbv, hkp, hfs, hfc]); refine qal ?_)
        exact ⟨_, i, by omega, by decide, rfl⟩
      · simp only [hn, if_true] at hnm
        have hi1 := qb3 (l := l) (i := i) (isName_ne hn)
        have hwd := fun L => s72 (A ++ L) k l hl (i + 1) 0 0 0 (lenL hk) (by omega)
        have hfw : fieldO false 0 1 (encW (wordW l (i + 1))) = some (.str (wordAt l (i + 1))) := by rw [fld0, wordW_t]
        rw [Int.natCast_add, Int.natCast_one] at hwd
        by_cases h3 : wordAt l (i + 1) = [44]
        · rw [ingP_go hn hm h3]
          have hi2 := qb3 (l := l) (i := i + 1) (by rw [h3]; simp)
          have hnx := fun y => ih (i + 1 + 1) (putS (wordAt l i) acc) (encL 1 ((putS (wordAt l i) acc).map .str)) y (by omega) (by omega) hpc hps hpe (by omega)
          simp only [Int.natCast_add, Int.natCast_one] at hnx
          (repeat' first | (with_reducible first | (apply qbk; intro hkk hke) | (apply qbu; · assumption) | apply qad | apply qa2 | apply qbd | apply qaw | apply tp_gs0 | apply tp_gs1 | apply tp_gk | apply qav (b := true) | apply qav (b := false) | apply qaa (b := true) | apply qaa (b := false) | apply qar | apply qaq | apply qb4 | apply tot_ifff | (apply tot_gtr_f; omega) | (apply qbz; omega) | (apply tot_neq_t; omega) | (apply tot_sneq_t; first | assumption | with_reducible rfl)) | ((conv => arg 2; arg 1; simp (disch := first | omega | assumption) only [qbb, qa7, qa1, qa0, qai, qaf, Nat.zero_add, qa4, qbc, qa9, qaz, qas, qan, qbt, ld_sh, ldc0, ldcS, qca, qcg, stocS, List.length_map, sameAd_ref, get_sh, List.getElem?_cons_succ, eg_0, qb5, qcj, st_ldo, qcc, irl4, irl1, ivl2, r71, hnm, hg, r73, hput, hg1, ivs2, irs1, r72, hwd, hfw, hkp2]); (with_reducible first | apply qad | apply qbf | apply qaa (b := false))))
          conv => arg 2; simp (disch := first | omega | assumption) only [qam, qbr, qcf, List.map_nil, Nat.zero_add, List.length_append, List.length_cons, List.length_nil, qa4, qbc, qa9, qak, Nat.reduceAdd, eg_0, eg_S, htk]
          exact hnx _
        · rw [ingP_end hn hm h3]
          show Tot (lineOut A k l (tail2P l nm pk (putS (wordAt l i) acc) (i + 1))) _
          have hm1 := fun L => s70 (A ++ L) k l hl (i + 1) wHops (lenL hk) (by omega)
          rw [Int.natCast_add, Int.natCast_one] at hm1
          (repeat' first | (with_reducible first | (apply qbk; intro hkk hke) | (apply qbu; · assumption) | apply qad | apply qa2 | apply qbd | apply qaw | apply tp_gs0 | apply tp_gs1 | apply qav (b := true) | apply qav (b := false) | apply qaa (b := true) | apply qaa (b := false) | apply qar | apply qaq | apply qb4 | apply tot_ifff | (apply tot_gtr_f; omega) | (apply qbz; omega) | (apply tot_neq_t; omega) | (apply tot_sneq_f; first | assumption | decide | exact List.cons_ne_nil _ _)) | ((conv => arg 2; arg 1; simp (disch := first | omega | assumption) only [qbb, qa7, qai, qaf, Nat.zero_add, qa4, qbc, qa9, qaz, qah, qas, qan, qbt, ld_sh, ldc0, ldcS, qca, qcg, stocS, List.length_map, sameAd_ref, get_sh, List.getElem?_cons_succ, eg_0, eg_S, qb5, st_ldo, qcc, irl4, irl1, ivl2, r71, hnm, hg, r73, hput, hg1, ivs2, r70, r72, hwd, hfw, hm1]); (with_reducible first | apply qad | apply qbf | apply qaa (b := true) | apply qaa (b := false))))
          by_cases hh : wordAt l (i + 1) = wHops
          · rw [if_pos hh, tail2_t _ _ _ hh]
            have hi2 := qb3 (l := l) (i := i + 1) (by rw [hh]; simp)
            have hb1 := fun L => s74 (A ++ L) k l hl (i + 1 + 1) 64 (lenL hk) (by omega)
            simp only [Int.natCast_add, Int.natCast_one] at hb1
            (repeat' first | (with_reducible first | (apply qbk; intro hkk hke) | (apply qbu; · assumption) | apply qa2 | apply qaw | apply qaa (b := true) | apply qar | (apply qbz; omega)) | ((conv => arg 2; arg 1; simp (disch := first | omega | assumption) only [qaf, Nat.zero_add, qa4, qbc, qa9, qaz, qah, qan, qca, qcg, stocS, eg_0, eg_S, qb5, qcc, irl4, r74, hb1, ivs3]); (with_reducible apply qad)))
            rcases numberP_cases l 64 (i + 1 + 1) with ⟨e, he, h5⟩ | ⟨n, h5, h6⟩
            · have h7 : rnumC l 64 (i + 1 + 1) = irC l ((i : Int) + 1 + 1 + 1) (wordW l (i + 1 + 1)).line (wordW l (i + 1 + 1)).col e := by unfold rnumC; rw [h5]; rfl
              have he0 : e ≠ 0 := by omega
              rw [h7, h5]
              (repeat' first | (with_reducible first | (apply qbk; intro hkk hke) | (apply qbu; · assumption) | apply qa2 | apply qaw | apply qaj | apply qaa (b := false) | apply qaq | (apply qb8; omega)) | ((conv => arg 2; arg 1; simp (disch := first | omega | assumption) only [qcb, Option.map_some, qao, qai, qaf, Nat.zero_add, qa4, qbc, qa9, qaz, qah, qas, qan, ld_sh, qb1, ldc0, ldcS, qb6, qcg, eg_0, eg_S, qb5, st_ldo, qcc, irl4, r70, hmb, ivlA, hsA]); (with_reducible apply qad)))
              ((try conv => arg 2; simp (disch := first | omega | assumption) only [qac, qb2, qae, qbp, qab, qag, qak, qbv, hkp, hfs, hfc]); refine qal ?_)
              exact ⟨_, i + 1 + 1 + 1, by omega, he0, rfl⟩
            · have h7 : rnumC l 64 (i + 1 + 1) = irC l ((i : Int) + 1 + 1 + 1) 0 0 0 := by unfold rnumC; rw [h5]; rfl
              rw [h7, h5]
              show Tot (lineOut A k l (tail3P l nm pk (putS (wordAt l i) acc) n (i + 1 + 1 + 1))) _
              have h8 : rnumN l (i + 1 + 1) = n := by unfold rnumN; rw [h6]; rfl
              rw [h8]
              have hm2 := fun L => s70 (A ++ L) k l hl (i + 1 + 1 + 1) wCount (lenL hk) (by omega)
              simp only [Int.natCast_add, Int.natCast_one] at hm2
              (repeat' first | (with_reducible first | apply qa2 | apply qaw) | ((conv => arg 2; arg 1; simp (disch := first | omega | assumption) only [qai, qaf, Nat.zero_add, qa4, qbc, qa9, qah, qas, qan, eg_0, eg_S, r70, hm2]); (with_reducible apply qad)))
              by_cases hc : wordAt l (i + 1 + 1 + 1) = wCount
              · rw [if_pos hc, tail3_t _ _ _ _ hc]
                have hi4 := qb3 (l := l) (i := i + 1 + 1 + 1) (by rw [hc]; simp)
                have hcp := s75 A (.cells (ivX [] [] (.sl .full 0 []) 0 0 0)) k l hl (i + 1 + 1 + 1 + 1) nm pk (encL 1 ((putS (wordAt l i) acc).map .str)) n hps hk (by omega)
                simp only [Int.natCast_add, Int.natCast_one] at hcp
                (repeat' first | (with_reducible first | (apply qbk; intro hkk hke) | (apply qbu; · assumption) | apply qa2 | apply qaw | apply qaa (b := true) | apply qar | (apply qbz; omega)) | ((conv => arg 2; arg 1; simp (disch := first | omega | assumption) only [qai, qaf, Nat.zero_add, qa4, qbc, qa9, qan, eg_0, eg_S, qb5, irl4, r75, hcp]); (with_reducible apply qad)))
                by_cases hs : signOf (wordAt l (i + 1 + 1 + 1 + 1)) = 0
                · rw [if_pos hs, signP_f hs]
                  (repeat' first | (with_reducible first | (apply qbk; intro hkk hke) | (apply qbu; · assumption) | apply qa2 | apply qaw | apply qaj | apply qaa (b := false) | apply qaq | (apply qb8; omega)) | ((conv => arg 2; arg 1; simp (disch := first | omega | assumption) only [qcb, Option.map_some, qao, qai, qaf, Nat.zero_add, qa4, qbc, qa9, qaz, qah, qas, qan, ld_sh, qb1, ldc0, ldcS, qb6, qcg, eg_0, eg_S, qb5, st_ldo, qcc, irl4, r70, hmb, ivlA, hsA]); (with_reducible apply qad)))
                  ((try conv => arg 2; simp (disch := first | omega | assumption) only [qac, qb2, qae, qbp, qab, qag, qak, qbv, hkp, hfs, hfc]); refine qal ?_)
                  exact ⟨_, i + 1 + 1 + 1 + 1 + 1, by omega, by decide, rfl⟩
                · rw [if_neg hs, signP_t hs]
                  have hb2 := fun L => s74 (A ++ L) k l hl (i + 1 + 1 + 1 + 1 + 1) 62 (lenL hk) (by omega)
                  simp only [Int.natCast_add, Int.natCast_one] at hb2
                  (repeat' first | (with_reducible first | (apply qbk; intro hkk hke) | (apply qbu; · assumption) | apply qa2 | apply qaw | apply qaa (b := true) | apply qar | (apply qbz; omega)) | ((conv => arg 2; arg 1; simp (disch := first | omega | assumption) only [qaf, Nat.zero_add, qa4, qbc, qa9, qaz, qah, qan, qca, qcg, stocS, eg_0, eg_S, qb5, qcc, irl4, r74, hb2, ivs5]); (with_reducible apply qad)))
                  show Tot (lineOut A k l ((numberP l 62 (i + 1 + 1 + 1 + 1 + 1)).bind fun y => tail4P l nm pk (putS (wordAt l i) acc) n (signOf (wordAt l (i + 1 + 1 + 1 + 1))) y.1 y.2)) _
                  rcases numberP_cases l 62 (i + 1 + 1 + 1 + 1 + 1) with ⟨e, he, k5⟩ | ⟨m, k5, k6⟩
                  · have k7 : rnumC l 62 (i + 1 + 1 + 1 + 1 + 1) = irC l ((i : Int) + 1 + 1 + 1 + 1 + 1 + 1) (wordW l (i + 1 + 1 + 1 + 1 + 1)).line (wordW l (i + 1 + 1 + 1 + 1 + 1)).col e := by unfold rnumC; rw [k5]; rfl
                    have he0 : e ≠ 0 := by omega
                    rw [k7, k5]
                    (repeat' first | (with_reducible first | (apply qbk; intro hkk hke) | (apply qbu; · assumption) | apply qa2 | apply qaw | apply qaj | apply qaa (b := false) | apply qaq | (apply qb8; omega)) | ((conv => arg 2; arg 1; simp (disch := first | omega | assumption) only [qcb, Option.map_some, qao, qai, qaf, Nat.zero_add, qa4, qbc, qa9, qaz, qah, qas, qan, ld_sh, qb1, ldc0, ldcS, qb6, qcg, eg_0, eg_S, qb5, st_ldo, qcc, irl4, r70, hmb, ivlA, hsA]); (with_reducible apply qad)))
                    ((try conv => arg 2; simp (disch := first | omega | assumption) only [qac, qb2, qae, qbp, qab, qag, qak, qbv, hkp, hfs, hfc]); refine qal ?_)
                    exact ⟨_, i + 1 + 1 + 1 + 1 + 1 + 1, by omega, he0, rfl⟩
                  · have k7 : rnumC l 62 (i + 1 + 1 + 1 + 1 + 1) = irC l ((i : Int) + 1 + 1 + 1 + 1 + 1 + 1) 0 0 0 := by unfold rnumC; rw [k5]; rfl
                    rw [k7, k5]
                    show Tot (lineOut A k l (tail4P l nm pk (putS (wordAt l i) acc) n (signOf (wordAt l (i + 1 + 1 + 1 + 1))) m (i + 1 + 1 + 1 + 1 + 1 + 1))) _
                    have k8 : rnumN l (i + 1 + 1 + 1 + 1 + 1) = m := by unfold rnumN; rw [k6]; rfl
                    rw [k8]
                    have hm3 := fun L => s70 (A ++ L) k l hl (i + 1 + 1 + 1 + 1 + 1 + 1) wPath (lenL hk) (by omega)
                    simp only [Int.natCast_add, Int.natCast_one] at hm3
                    (repeat' first | (with_reducible first | apply qa2 | apply qaw) | ((conv => arg 2; arg 1; simp (disch := first | omega | assumption) only [qai, qaf, Nat.zero_add, qa4, qbc, qa9, qah, qas, qan, eg_0, eg_S, r70, hm3]); (with_reducible apply qad)))
                    by_cases hp : wordAt l (i + 1 + 1 + 1 + 1 + 1 + 1) = wPath
                    · rw [if_pos hp, tail4_t _ _ _ _ _ _ hp]
                      have hi7 := qb3 (l := l) (i := i + 1 + 1 + 1 + 1 + 1 + 1) (by rw [hp]; simp)
                      obtain ⟨y, hy, _, hyc⟩ := from_enc encW 3 (by omega) plainWs l (i + 1 + 1 + 1 + 1 + 1 + 1 + 1) (by omega)
                      have hwd8 : ∀ w, w ∈ l.drop (i + 1 + 1 + 1 + 1 + 1 + 1 + 1) → w.t.length ≤ 100000000 := fun w hm => hl.short w (List.mem_of_mem_drop hm)
                      have hrd := fun A => s76 (l := l.drop (i + 1 + 1 + 1 + 1 + 1 + 1 + 1)) (by simp only [List.length_drop]; omega) hwd8 A
                      have hat := readP_at hwd8
                      simp only [List.length_drop] at hat
                      have hg2 : ∀ L x, (st (A ++ L) k x)[A.length + 2]? = (A ++ L)[A.length + 2]? := fun L x => st_other (by omega)
                      unfold pathP
                      generalize readP (l.drop (i + 1 + 1 + 1 + 1 + 1 + 1 + 1)) = q at hrd hat ⊢
                      obtain ⟨r, at_, e⟩ := q
                      unfold readD at hrd
                      dsimp only at hrd hat ⊢
                      simp only [Int.natCast_add, Int.natCast_one] at hy
                      have hsF := fun h c n => ivsF nm pk [] [] (encL 1 ((putS (wordAt l i) acc).map .str)) (.sl .full 0 []) h c n 0 0 0 r hpe
                      have hFs := fun h c n m => ivF_shut nm pk (encL 1 ((putS (wordAt l i) acc).map .str)) h c n r hps m
                      have hFc := fun h c n => ivF_can nm pk (encL 1 ((putS (wordAt l i) acc).map .str)) h c n r hpc
                      have hwt : ∀ cs k A, waitO cs k A = guardP (A[k]? = some (.cells cs)) (some (.ref k 0)) := fun _ _ _ => rfl
                      by_cases he : e = 0
                      · subst he
                        (repeat' first | (with_reducible first | (apply qbk; intro hkk hke) | (apply qbu; · assumption) | apply qa2 | apply qaw | apply tp_gs0 | apply tp_gs1 | apply qaj | apply qaa (b := true) | apply qaa (b := false) | apply qar | apply qaq | (apply qbz; omega) | (apply tot_neq_t; omega)) | ((conv => arg 2; arg 1; simp (disch := first | omega | assumption) only [qcb, qac, Option.map_some, qa1, qa0, qao, qai, qaf, Nat.zero_add, Nat.add_zero, ofA3, List.length_append, List.length_cons, List.length_nil, sameAd_refl, qa4, qbc, qa9, qaz, qak, qb9, qb0, ld_sh, qb1, ldc0, ldcS, qca, qb6, qcg, stocS, ext0, extS, Nat.reduceAdd, get_sh, List.getElem?_cons_succ, eg_0, eg_S, qb5, qcj, stL_appr, st_ldo, qcc, irl0, irl4, irl1, irs1, hy, hyc, r76, hrd, mL_gw, hwt, hg2, rx_lay, rx_fold, ivs6, ivlF, hsF, List.getElem?_cons_zero]); (with_reducible first | apply qad | apply qbf)))
                        ((try conv => arg 2; simp (disch := first | omega | assumption) only [qac, qb2, qae, qbp, qab, qag, qak, qbv, hkp, hFs, hFc]); refine qal ?_)
                        exact ⟨i + 1 + 1 + 1 + 1 + 1 + 1 + 1 + at_, by omega, rfl⟩
                      · have hfl := fun L => s32 (A ++ L) k l hl (i + 1 + 1 + 1 + 1 + 1 + 1 + 1 + at_) 0 0 e (lenL hk) (by omega)
                        simp only [Int.natCast_add, Int.natCast_one] at hfl
                        rw [if_neg he]
                        (repeat' first | (with_reducible first | (apply qbk; intro hkk hke) | (apply qbu; · assumption) | apply qa2 | apply qaw | apply tp_gs0 | apply tp_gs1 | apply qaj | apply qaa (b := true) | apply qar | (apply qbz; omega) | (apply tot_neq_f; omega)) | ((conv => arg 2; arg 1; simp (disch := first | omega | assumption) only [qcb, qac, Option.map_some, qa1, qa0, qao, qai, qaf, Nat.zero_add, Nat.add_zero, ofA3, List.length_append, List.length_cons, List.length_nil, sameAd_refl, qa4, qbc, qa9, qaz, qah, qan, qak, qb9, qb0, ld_sh, qb1, ldc0, ldcS, qca, qb6, qcg, stocS, ext0, extS, Nat.reduceAdd, get_sh, List.getElem?_cons_succ, eg_0, eg_S, qb5, qcj, stL_appr, st_ldo, qcc, irl0, irl4, irl1, irs1, hy, hyc, r76, hrd, mL_gw, hwt, hg2, rx_lay, rx_fold, ivs6, ivlF, hsF, r32, hfl, List.getElem?_cons_zero]); (with_reducible first | apply qad | apply qbf)))
                        ((try conv => arg 2; simp (disch := first | omega | assumption) only [qac, qb2, qae, qbp, qab, qag, qak, qbv, hkp, hFs, hFc]); refine qal ?_)
                        exact ⟨_, i + 1 + 1 + 1 + 1 + 1 + 1 + 1 + at_, by omega, he, rfl⟩
                    · rw [if_neg hp, tail4_f _ _ _ _ _ _ hp]
                      (repeat' first | (with_reducible first | (apply qbk; intro hkk hke) | (apply qbu; · assumption) | apply qa2 | apply qaj | apply qaa (b := false) | apply qaq | (apply qb8; omega)) | ((conv => arg 2; arg 1; simp (disch := first | omega | assumption) only [qcb, Option.map_some, qao, qa4, qbc, qa9, qaz, ld_sh, qb1, ldc0, ldcS, qb6, qcg, eg_0, eg_S, qb5, st_ldo, qcc, irl4, ivlA, hsA]); (with_reducible apply qad)))
                      ((try conv => arg 2; simp (disch := first | omega | assumption) only [qac, qb2, qae, qbp, qab, qag, qak, qbv, hkp, hfs, hfc]); refine qal ?_)
                      exact ⟨_, i + 1 + 1 + 1 + 1 + 1 + 1, by omega, by decide, rfl⟩
              · rw [if_neg hc, tail3_f _ _ _ _ hc]
                (repeat' first | (with_reducible first | (apply qbk; intro hkk hke) | (apply qbu; · assumption) | apply qa2 | apply qaw | apply qaj | apply qaa (b := false) | apply qaq | (apply qb8; omega)) | ((conv => arg 2; arg 1; simp (disch := first | omega | assumption) only [qcb, Option.map_some, qao, qai, qaf, Nat.zero_add, qa4, qbc, qa9, qaz, qah, qas, qan, ld_sh, qb1, ldc0, ldcS, qb6, qcg, eg_0, eg_S, qb5, st_ldo, qcc, irl4, r70, hmb, ivlA, hsA]); (with_reducible apply qad)))
                ((try conv => arg 2; simp (disch := first | omega | assumption) only [qac, qb2, qae, qbp, qab, qag, qak, qbv, hkp, hfs, hfc]); refine qal ?_)
                exact ⟨_, i + 1 + 1 + 1, by omega, by decide, rfl⟩
          · rw [if_neg hh, tail2_f _ _ _ hh]
            (repeat' first | (with_reducible first | (apply qbk; intro hkk hke) | (apply qbu; · assumption) | apply qa2 | apply qaw | apply qaj | apply qaa (b := false) | apply qaq | (apply qb8; omega)) | ((conv => arg 2; arg 1; simp (disch := first | omega | assumption) only [qcb, Option.map_some, qao, qai, qaf, Nat.zero_add, qa4, qbc, qa9, qaz, qah, qas, qan, ld_sh, qb1, ldc0, ldcS, qb6, qcg, eg_0, eg_S, qb5, st_ldo, qcc, irl4, r70, hmb, ivlA, hsA]); (with_reducible apply qad)))
            ((try conv => arg 2; simp (disch := first | omega | assumption) only [qac, qb2, qae, qbp, qab, qag, qak, qbv, hkp, hfs, hfc]); refine qal ?_)
            exact ⟨_, i + 1, by omega, by decide, rfl⟩
    · rw [ingP_no hn]
      simp only [hn, Bool.false_eq_true, if_false] at hnm
      (repeat' first | (with_reducible first | (apply qbk; intro hkk hke) | (apply qbu; · assumption) | apply qad | apply qa2 | apply qbd | apply qaw | apply tp_gs0 | apply tp_gs1 | apply qaj | apply qav (b := true) | apply qav (b := false) | apply qaa (b := true) | apply qaa (b := false) | apply qar | apply qaq | apply qce | apply tot_iftf | (apply qbz; omega) | (apply qb8; omega) | (apply tot_neq_f; omega)) | ((conv => arg 2; arg 1; simp (disch := first | omega | assumption) only [qcb, qbb, qa7, Option.map_some, qao, qai, qaf, Nat.zero_add, qa4, qbc, qa9, qaz, qah, qas, qan, ld_sh, qb1, ldc0, ldcS, qca, qb6, qcg, stocS, sameAd_ref, get_sh, List.getElem?_cons_succ, eg_0, eg_S, qb5, st_ldo, qcc, irl4, irl1, ivl2, r71, hnm, hg, r73, hput, hg1, ivs2, r70, hmb, ivlA, hsA]); (with_reducible first | apply qad | apply qbf | apply qaa (b := true) | apply qaa (b := false))))
      ((try conv => arg 2; simp (disch := first | omega | assumption) only [qac, qb2, qae, qbp, qab, qag, qak, qbv, hkp, hfs, hfc]); refine qal ?_)
      exact ⟨_, i + 1, by omega, by decide, rfl⟩
end Go.Vm.Rx
