/- RxS23, RxS24 in one text. -/
import Derived.Test.YtmaipfiikbcfmaaDoorRxS22
import Derived.Test.YtmaipfiikbcfmaaDoorVmSt4
set_option linter.all false
/- The program's reader of words: its small functions. -/
namespace Go.Vm.Rx
open Go Go.Proofs P
set_option linter.unusedVariables false
set_option linter.unusedSimpArgs false
set_option maxRecDepth 10000
set_option maxHeartbeats 1000000
/-- a place among words, and how many parentheses are open -/
def psC (l : List Word) (i o : Int) : List D := [encL 3 (l.map encW), .int .i64 i, .int .i64 o]
theorem psC_shut (l : List Word) (i o : Int) (n : Nat) : D.shutL n (psC l i o) = psC l i o := by
  have := (encL_plain (plainWs l) 3).shut n
  simp [psC, D.shutL, this, D.shut]
section
variable (l : List Word) (i o x : Int)
theorem psl1 : ofCells false (psC l i o) 1 1 = some (.int .i64 i) := rfl
theorem psl2 : ofCells false (psC l i o) 2 1 = some (.int .i64 o) := rfl
theorem pss1 : layCells false 1 1 (psC l i o) (.int .i64 x) = some (psC l x o) := rfl
theorem pss2 : layCells false 1 2 (psC l i o) (.int .i64 x) = some (psC l i x) := rfl
end
theorem s77 (A : St) (k : Nat) (l : List Word) (i : Nat) (o : Int) (hk : k < A.length) (hl : l.length ≤ 100000000) (hi : i ≤ 200000000) :
    f77 mL (Run Tryd.prog rxA) (Dcall Tryd.prog rxA) (.ref k 0) (st A k (psC l i o)) = some (.ret (.str (wordAt l i)), st A k (psC l i o)) := by
  have hix : i < l.length → indexAddrO 3 true (encL 3 (l.map encW)) (.int .i64 (i : Int)) = some (.peek (cellsW l[i]!)) := fun h => by
    rw [idx_map h, cellW, getElem!_pos l i h]; rfl
  unfold f77 psC
  refine Tot.eq ?_
  by_cases h : i < l.length
  · have hx := hix h
    unfold cellsW at hx
    (repeat' first | (with_reducible first | apply Tot.of (qa3 rfl) | apply Tot.of (st_guard rfl) | apply Tot.of (st_gs rfl) | apply Tot.of (qak rfl) | apply Tot.bql (b := true) | apply Tot.ift | (apply Tot.lss_t; omega)) | ((conv => arg 2; arg 1; simp (disch := first | omega | assumption) only [qa1, qaf, fieldAddr_peek, qbf, qa4, ofCellsS, List.drop_zero, Nat.zero_add, Nat.add_zero, len_encL, st_load, List.length_map, hx]); (with_reducible first | apply Tot.of (qaa rfl))))
    ((try conv => arg 2; simp (disch := first | omega | assumption) only [qac, shut_strD, qa2, qad, qam, qab, qae, qax, st_take]); refine Tot.ret ?_)
    rw [wordAt_lt h, getElem!_pos l i h]
  · (repeat' first | (with_reducible first | apply Tot.of (qa3 rfl) | apply Tot.of (st_guard rfl) | apply Tot.of (st_gs rfl) | apply Tot.of (qak rfl) | apply Tot.bql (b := false) | apply Tot.iff | (apply Tot.lss_f; omega)) | ((conv => arg 2; arg 1; simp (disch := first | omega | assumption) only [qa1, qaf, qa4, ofCellsS, Nat.zero_add, Nat.add_zero, len_encL, st_load, List.length_map]); (with_reducible first | apply Tot.of (qaa rfl))))
    ((try conv => arg 2; simp (disch := first | omega | assumption) only [qac, shut_strD, qa2, qad, qam, qab, qae, qax, st_take]); refine Tot.ret ?_)
    rw [wordAt_ge h]
theorem s32 (A : St) (k : Nat) (l : List Word) (i o e : Int) (hk : k < A.length) :
    f32 mL (Run Tryd.prog rxA) (Dcall Tryd.prog rxA) (.ref k 0) (.int .i64 e) (st A k (psC l i o)) = some (.pan (.iface 69 (.agg [.int .i64 i, .int .i64 e])), st A k (psC l i o)) := by
  have hla : ∀ a b x, layCells false 1 0 [a, b] (D.int .i64 x) = some [.int .i64 x, b] := fun _ _ _ => rfl
  have hlb : ∀ a b x, layCells false 1 1 [a, b] (D.int .i64 x) = some [a, .int .i64 x] := fun _ _ _ => rfl
  unfold f32 psC
  refine Tot.eq ?_
  (repeat' first | (with_reducible first | apply Tot.of (qaa rfl) | apply Tot.of (st_bind rfl) | apply Tot.of (qba rfl) | apply Tot.of (qa3 rfl) | apply Tot.of (qak rfl)) | ((conv => arg 2; arg 1; simp (disch := first | omega | assumption) only [qa1, qaf, qa4, ofCellsS, Nat.zero_add, qai, st_load, hla, hlb]); (with_reducible first | apply Tot.of (qaa rfl))))
  ((try conv => arg 2; simp (disch := first | omega | assumption) only [qac, qao, shut_agg, shut_iface, qay, qar, qa2, Res_shut_pan, qag, canon_agg, canon_iface, qat, qan, Res_canon_pan, qae, qax, st_take]); refine Tot.ret ?_)
  rfl
theorem stS_Kept {A : St} {k : Nat} {cs cs' : List D} (h : D.shutL A.length cs' = cs') : Kept (st A k cs) (st A k cs') ↔ True := by
  have := stL_Kept (A := A) (k := k) (cs := cs) (cs' := cs') (L := []) h
  simpa using this
/-- which of some words it is; -1: none -/
def idxStr (w : Str) : List Str → Int → Int
  | [], _ => -1
  | x :: r, i => if w = x then i else idxStr w r (i + 1)
theorem idxStr_ge (w : Str) : ∀ (ws : List Str) (i : Int), 0 ≤ i → (0 ≤ idxStr w ws i ↔ w ∈ ws)
  | [], i, h => by simp [idxStr]
  | x :: r, i, h => by
    unfold idxStr
    split
    · rename_i e; simp [e, h]
    · rename_i e
      rw [idxStr_ge w r (i + 1) (by omega)]
      simp [e]
theorem s96_loop (A : St) (w : Str) (hwl : w.length ≤ 100000000) (ws : List Str) (hl : ws.length ≤ 100000) : ∀ (t : List Str) (i : Nat), ws.drop i = t → i ≤ ws.length →
    iterK (f96_s0 mL (Run Tryd.prog rxA) (Dcall Tryd.prog rxA) A) (Env.mk (sp [(0, encL 1 (ws.map .str)), (0, .str w), (5, .int .i64 (ws.length : Nat)), (0, .int .i64 (i : Nat))] 10) []) A = some (.ret (.int .i64 (idxStr w t i)), A) := by
  intro t
  induction t with
  | nil =>
    intro i ht hi
    have h1 := drop_len ht
    refine Tot.eq (Tot.iter ?_)
    conv => arg 2; arg 1; unfold f96_s0
    (repeat' first | (with_reducible first | apply Tot.of (qaq rfl) | apply Tot.of (qba rfl) | apply Tot.of (qah rfl) | apply Tot.of (st_inr rfl) | apply Tot.of (qa0 rfl) | apply Tot.bql (b := false) | apply Tot.iff) | ((conv => arg 2; arg 1; simp (disch := first | omega | assumption) only [qac, Option.map_some, qao, qa2, qad, qal, List.take_length, qa5, qbb, qbe, qai, qag, qab, qae]); (with_reducible first | apply Tot.of (qaa rfl) | (apply Tot.lss_f; omega))))
    all_goals (((try conv => arg 2; simp (disch := first | omega | assumption) only []); refine Tot.ret ?_); rfl)
  | cons x t ih =>
    intro i ht hi
    have h1 := drop_lt ht
    have hx := idx_drop (f := D.str) ht 1 false .i64
    have hsh : ∀ n, (encL 1 (ws.map .str)).shut n = encL 1 (ws.map .str) := fun n => (encL_plain (PlainL.map (fun s => ⟨fun _ => rfl, rfl⟩) ws) 1).shut n
    refine Tot.eq (Tot.iter ?_)
    conv => arg 2; arg 1; unfold f96_s0
    unfold idxStr
    by_cases he : w = x
    · rw [if_pos he]
      (repeat' first | (with_reducible first | apply Tot.of (qaq rfl) | apply Tot.of (qba rfl) | apply Tot.of (qa3 rfl) | apply Tot.of (qah rfl) | apply Tot.of (st_inr rfl) | apply Tot.of (qa0 rfl) | apply Tot.bql (b := true) | apply Tot.ift) | ((conv => arg 2; arg 1; simp (disch := first | omega | assumption) only [qac, Option.map_some, qao, qa2, qad, qal, qbf, qa4, List.take_length, qa5, qbb, qbe, qaz, qag, qab, qae, cell_str, hx]); (with_reducible first | apply Tot.of (qaa rfl) | (apply Tot.lss_t; omega) | (apply Tot.seql_t; first | assumption | with_reducible rfl))))
      all_goals (((try conv => arg 2; simp (disch := first | omega | assumption) only []); refine Tot.ret ?_); rfl)
    · rw [if_neg he]
      (repeat' first | (with_reducible first | apply Tot.of (qaa rfl) | apply Tot.of (qaq rfl) | apply Tot.of (qa3 rfl) | apply Tot.of (qah rfl) | apply Tot.of (st_bnguard rfl) | apply Tot.of (st_inl rfl) | apply Tot.of (st_bngk rfl) | apply Tot.bql (b := true) | apply Tot.bql (b := false) | apply Tot.ift | apply Tot.iff) | ((conv => arg 2; arg 1; simp (disch := first | omega | assumption) only [binO_add, qbi, qa2, qbf, qa4, qa5, qbb, qbe, qaz, qai, cell_str, hx]); (with_reducible first | apply Tot.of (qaa rfl) | apply Tot.of (st_guard rfl) | (apply Tot.lss_t; omega) | (apply Tot.seql_f; first | assumption | decide | exact List.cons_ne_nil _ _))))
      (refine Tot.of_eq ?_; (conv => lhs; simp (disch := first | omega | assumption) only [qao, shut_strD, List.take_length, List.map_nil, qa5, qbb, qbe]); rw [hsh]; have := ih (i + 1) (drop_succ ht) (by omega); simp only [Int.natCast_add, Int.natCast_one] at this; exact this)
theorem s96 (A : St) (w : Str) (hwl : w.length ≤ 100000000) (ws : List Str) (hl : ws.length ≤ 100000) :
    f96 mL (Run Tryd.prog rxA) (Dcall Tryd.prog rxA) (encL 1 (ws.map .str)) (.str w) A = some (.ret (.int .i64 (idxStr w ws 0)), A) := by
  have := s96_loop A w hwl ws hl ws 0 rfl (by omega)
  unfold f96
  refine Tot.eq ?_
  (repeat' first | (with_reducible first | apply Tot.of (st_it rfl)) | ((conv => arg 2; arg 1; simp (disch := first | omega | assumption) only [len_encL, List.length_map]); (with_reducible first | apply Tot.of (qaa rfl))))
  (refine Tot.of_eq ?_; (conv => lhs; simp (disch := first | omega | assumption) only [qai]); exact this)
theorem s71 (A : St) (w : Str) (hwl : w.length ≤ 100000000) (ws : List Str) (hl : ws.length ≤ 100000) :
    f71 mL (Run Tryd.prog rxA) (Dcall Tryd.prog rxA) (encL 1 (ws.map .str)) (.str w) A = some (.ret (.bool (decide (w ∈ ws))), A) := by
  have h1 := s96 A w hwl ws hl
  have h2 := idxStr_ge w ws 0 (by omega)
  have hcn : (encL 1 (ws.map .str)).canon = encL 1 (ws.map .str) := (encL_plain (PlainL.map (fun s => ⟨fun _ => rfl, rfl⟩) ws) 1).canon
  unfold f71
  refine Tot.eq ?_
  by_cases h : w ∈ ws
  · have h3 := h2.2 h
    (repeat' first | (with_reducible first | apply Tot.of (qas rfl) | apply Tot.of (qak rfl)) | ((conv => arg 2; arg 1; simp (disch := first | omega | assumption) only [qai, qam, r96, hcn, h1]); (with_reducible first | apply Tot.of (qaa rfl) | (apply Tot.geq_t; omega))))
    ((try conv => arg 2; simp (disch := first | omega | assumption) only [qac, qau, qa2, qad, List.take_length, qap, qab, qae]); refine Tot.ret ?_)
    simp [h, h3]
  · have h3 : ¬ 0 ≤ idxStr w ws 0 := fun e => h (h2.1 e)
    (repeat' first | (with_reducible first | apply Tot.of (qas rfl) | apply Tot.of (qak rfl)) | ((conv => arg 2; arg 1; simp (disch := first | omega | assumption) only [qai, qam, r96, hcn, h1]); (with_reducible first | apply Tot.of (qaa rfl) | (apply Tot.geq_f; omega))))
    ((try conv => arg 2; simp (disch := first | omega | assumption) only [qac, qau, qa2, qad, List.take_length, qap, qab, qae]); refine Tot.ret ?_)
    simp [h, h3]
/-- what eat comes to -/
theorem s53 (A : St) (k : Nat) (l : List Word) (i : Nat) (o : Int) (ws : List Str) (hk : k < A.length) (hl : l.length ≤ 100000000) (hi : i ≤ 200000000) (hwl : (wordAt l i).length ≤ 100000000) (hws : ws.length ≤ 100000) :
    f53 mL (Run Tryd.prog rxA) (Dcall Tryd.prog rxA) (.ref k 0) (encL 1 (ws.map .str)) (st A k (psC l i o)) = some (if wordAt l i ≠ [] ∧ wordAt l i ∈ ws then (.ret (.tup [.str (wordAt l i), .bool true]), st A k (psC l ((i : Int) + 1) o)) else (.ret (.tup [.str [], .bool false]), st A k (psC l i o))) := by
  have h1 := s77 A k l i o hk hl hi
  have h2 := fun A => s71 A (wordAt l i) hwl ws hws
  have hcn : (encL 1 (ws.map .str)).canon = encL 1 (ws.map .str) := (encL_plain (PlainL.map (fun s => ⟨fun _ => rfl, rfl⟩) ws) 1).canon
  have hkp := stS_Kept (A := A) (k := k) (cs := psC l i o) (cs' := psC l ((i : Int) + 1) o) (psC_shut _ _ _ _)
  unfold f53
  refine Tot.eq ?_
  by_cases h : wordAt l i = []
  · rw [if_neg (by simp [h])]
    rw [h] at h1
    (repeat' first | (with_reducible first | apply Tot.of (qaa rfl) | apply Tot.of (qa3 rfl) | apply Tot.of (qah rfl) | apply Tot.of (qas rfl) | apply Tot.of (qak rfl) | apply Tot.gbl (b := true) | apply Tot.bql (b := true) | apply Tot.ift | apply Tot.iftf | (apply Tot.seql_t; first | assumption | with_reducible rfl)) | ((conv => arg 2; arg 1; simp (disch := first | omega | assumption) only [qa8, qbg, r77, h1]); (with_reducible first | apply Tot.of (qaa rfl) | apply Tot.bql (b := true))))
    ((try conv => arg 2; simp (disch := first | omega | assumption) only [qac, qau, shut_strD, shut_tup, qay, qar, qa2, qad, qap, qam, canon_tup, qat, qan, qab, qae, qax, st_take]); refine Tot.ret ?_)
    rfl
  · by_cases hm : wordAt l i ∈ ws
    · rw [if_pos ⟨h, hm⟩]
      simp only [decide_eq_true hm] at h2
      (repeat' first | (with_reducible first | apply Tot.of (qaa rfl) | apply Tot.of (qa3 rfl) | apply Tot.of (qah rfl) | apply Tot.of (qas rfl) | apply Tot.of (qak rfl) | apply Tot.gbl (b := false) | apply Tot.bql (b := false) | apply Tot.iff | apply Tot.ifff | (apply Tot.seql_f; first | assumption | decide | exact List.cons_ne_nil _ _)) | ((conv => arg 2; arg 1; simp (disch := first | omega | assumption) only [qaw, binO_add, qbi, qa1, qaf, Nat.zero_add, un_not, Bool.not_true, qaz, qai, qam, qbg, st_load, st_store, r77, h1, r71, hcn, h2, psl1, pss1]); (with_reducible first | apply Tot.of (qaa rfl) | apply Tot.bql (b := false))))
      ((try conv => arg 2; simp (disch := first | omega | assumption) only [qac, qau, shut_strD, shut_tup, qay, qar, qad, qap, qam, canon_tup, qat, qan, qab, qae, qax, st_take, hkp]); refine Tot.ret ?_)
      rfl
    · rw [if_neg (fun e => hm e.2)]
      simp only [decide_eq_false hm] at h2
      (repeat' first | (with_reducible first | apply Tot.of (qaa rfl) | apply Tot.of (qa3 rfl) | apply Tot.of (qah rfl) | apply Tot.of (qas rfl) | apply Tot.of (qak rfl) | apply Tot.gbl (b := false) | apply Tot.bql (b := false) | apply Tot.ift | apply Tot.ifff | (apply Tot.seql_f; first | assumption | decide | exact List.cons_ne_nil _ _)) | ((conv => arg 2; arg 1; simp (disch := first | omega | assumption) only [qaw, un_not, Bool.not_false, qam, qbg, r77, h1, r71, hcn, h2]); (with_reducible first | apply Tot.of (qaa rfl) | apply Tot.bql (b := true))))
      ((try conv => arg 2; simp (disch := first | omega | assumption) only [qac, qau, shut_strD, shut_tup, qay, qar, qa2, qad, qap, qam, canon_tup, qat, qan, qab, qae, qax, st_take]); refine Tot.ret ?_)
      rfl
theorem s104 (A : St) (k : Nat) (l : List Word) (i : Nat) (o : Int) (hk : k < A.length) (hl : l.length ≤ 100000000) (hi : i ≤ 200000000) (hwl : (wordAt l i).length ≤ 100000000) :
    f104 mL (Run Tryd.prog rxA) (Dcall Tryd.prog rxA) (.ref k 0) (st A k (psC l i o)) = some (if isName (wordAt l i) then (.ret (.str (wordAt l i)), st A k (psC l ((i : Int) + 1) o)) else (.pan (.iface 69 (.agg [.int .i64 i, .int .i64 90])), st A k (psC l i o))) := by
  have h1 := s77 A k l i o hk hl hi
  have h2 := fun A => s63 (wordAt l i) (by omega) A
  have h3 := s32 A k l i o 90 hk
  have hkp := stS_Kept (A := A) (k := k) (cs := psC l i o) (cs' := psC l ((i : Int) + 1) o) (psC_shut _ _ _ _)
  unfold f104
  refine Tot.eq ?_
  cases h : isName (wordAt l i)
  · rw [h] at h2
    (repeat' first | (with_reducible first | apply Tot.of (qaq rfl) | apply Tot.of (qba rfl) | apply Tot.of (qah rfl) | apply Tot.of (qav rfl) | apply Tot.of (qas rfl) | apply Tot.of (st_pan rfl) | apply Tot.of (st_inr rfl) | apply Tot.of (qa0 rfl) | apply Tot.bql (b := true) | apply Tot.ift) | ((conv => arg 2; arg 1; simp (disch := first | omega | assumption) only [qac, qao, shut_agg, shut_iface, qay, qar, qa2, Res_shut_pan, qa1, qaf, Nat.add_zero, un_not, Bool.not_false, qai, qag, qam, qbg, canon_agg, canon_iface, qat, qan, Res_canon_pan, qae, qax, st_take, r77, h1, r63, h2, r32, h3]); (with_reducible first | apply Tot.of (qaa rfl))))
    ((try conv => arg 2; simp (disch := first | omega | assumption) only []); refine Tot.ret ?_)
    rfl
  · rw [h] at h2
    (repeat' first | (with_reducible first | apply Tot.of (qaa rfl) | apply Tot.of (qa3 rfl) | apply Tot.of (qah rfl) | apply Tot.of (qas rfl) | apply Tot.of (st_inl rfl) | apply Tot.of (qak rfl) | apply Tot.bql (b := false) | apply Tot.iff) | ((conv => arg 2; arg 1; simp (disch := first | omega | assumption) only [Option.map_some, binO_add, qbi, qal, qa1, qaf, Nat.zero_add, Nat.add_zero, un_not, Bool.not_true, qa5, qbb, qbe, qaz, qai, qam, qbg, st_load, st_store, r77, h1, r63, h2, psl1, pss1]); (with_reducible first | apply Tot.of (qaa rfl))))
    ((try conv => arg 2; simp (disch := first | omega | assumption) only [qac, shut_strD, qad, qam, qab, qae, qax, st_take, hkp]); refine Tot.ret ?_)
    rfl
end Go.Vm.Rx

/- Several expressions as one: the program's join. -/
namespace Go.Vm.Rx
open Go Go.Proofs P
set_option linter.unusedVariables false
set_option linter.unusedSimpArgs false
set_option maxRecDepth 10000
set_option maxHeartbeats 2000000
/-- taken apart: one, or several -/
def joinK (op : Int) (ks : List Rx) : Rx := match ks with | [r] => r | ks => .mk op [] ks
theorem joinK_ne {op : Int} {ks : List Rx} (h : ¬ (ks.length : Int) = 1) : joinK op ks = .mk op [] ks := by
  unfold joinK
  split
  · simp at h
  · rfl
theorem join_eq {op : Int} {l : List Rx} (h : ∀ r, l ≠ [r]) : join op l = joinK op (flat op l) := by
  rw [join_two h]; rfl
theorem s54_loop (A : St) (op : Int) (l : List Rx) (r0 r1 r2 : D) (hl : l.length ≤ 100000000) (hfl : (flat op l).length ≤ 100000000) : ∀ (t : List Rx) (i : Nat) (acc : List Rx) (S : St) (d y : D), l.drop i = t → i ≤ l.length → acc ++ flat op t = flat op l → Grow A (.cells [r0, r1, r2]) 3 S d (acc.map encRx) →
    iterK (f54_s0 mL (Run Tryd.prog rxA) (Dcall Tryd.prog rxA) A) (Env.mk (sp [(0, .int .i64 op), (3, .ref A.length 0), (0, d), (2, encL 3 (l.map encRx)), (0, .int .i64 (l.length : Nat)), (0, .int .i64 (i : Nat)), (14, y)] 10) []) S = some (.ret (encRx (joinK op (flat op l))), A) := by
  intro t
  induction t with
  | nil =>
    intro i acc S d y ht hi hacc g
    have h1 := drop_len ht
    simp only [flat, List.append_nil] at hacc
    rw [← hacc] at hfl ⊢
    have hln := g.len
    have hS := g.shut (plainRxs acc)
    have hce := g.cell
    obtain ⟨⟨L, rfl⟩, hr⟩ := g
    refine Tot.eq (Tot.iter ?_)
    conv => arg 2; arg 1; unfold f54_s0
    have hlm : ((acc.map encRx).length : Int) = (acc.length : Int) := by simp
    rw [hlm] at hln
    by_cases hc : (acc.length : Int) = 1
    · obtain ⟨r, rfl⟩ : ∃ r, acc = [r] := by
        cases acc with
        | nil => simp at hc
        | cons r l => cases l with
          | nil => exact ⟨r, rfl⟩
          | cons _ _ => simp at hc; omega
      have hix : indexAddrO 3 true d (.int .i64 0) = mp ((encRx r).cellsT true) .peek := by
        rcases hr with ⟨c, _, rfl, _⟩ | rfl | ⟨rfl, h⟩
        · exact idx_lit1 _
        · exact idx_lit1 _
        · simp at h
      (repeat' first | (with_reducible first | apply Tot.of (qaq rfl) | apply Tot.of (qba rfl) | apply Tot.of (qa3 rfl) | apply Tot.of (qah rfl) | apply Tot.of (st_inr rfl) | apply Tot.of (qa0 rfl) | apply Tot.bql (b := true) | apply Tot.bql (b := false) | apply Tot.ift | apply Tot.iff) | ((conv => arg 2; arg 1; simp (disch := first | omega | assumption) only [qac, Option.map_some, Option.bind_some, qaj, qad, qal, qbf, Nat.zero_add, ofA3, packD, List.length_cons, List.length_nil, qa5, qbb, qbe, qaz, qai, qab, qae, qa9, ldc0, sto_sh0, stoc0, List.take_left', hln, hix, rx_cell, rx_lay, qbd]); (with_reducible first | apply Tot.of (qaa rfl) | (apply Tot.lss_f; omega) | (apply Tot.eql_t; omega))))
      all_goals (((try conv => arg 2; simp (disch := first | omega | assumption) only [rx_shut, qa7]); refine Tot.ret ?_); rfl)
    · rw [joinK_ne hc]
      have hl1 : layCells false 1 2 [D.int .i64 op, .str [], .sl .full 0 []] d = some [D.int .i64 op, .str [], d] := by
        simp [layCells, hce, splice]
      have hl2 : layCells true 3 0 [r0, r1, r2] (.agg [D.int .i64 op, .str [], d]) = some [D.int .i64 op, .str [], d] := by
        have : allCells [D.int .i64 op, .str [], d] = true := by
          rcases hr with ⟨c, _, rfl, _⟩ | rfl | ⟨rfl, _⟩ <;> rfl
        simp [layCells, D.cellsT, D.agg?, this, splice]
      have hl0 : ∀ a b c x, layCells false 1 0 [a, b, c] (D.int .i64 x) = some [.int .i64 x, b, c] := fun _ _ _ _ => rfl
      (repeat' first | (with_reducible first | apply Tot.of (qaa rfl) | apply Tot.of (qaq rfl) | apply Tot.of (st_bind rfl) | apply Tot.of (qba rfl) | apply Tot.of (qa3 rfl) | apply Tot.of (qah rfl) | apply Tot.of (st_inr rfl) | apply Tot.of (qa0 rfl) | apply Tot.bql (b := false) | apply Tot.iff) | ((conv => arg 2; arg 1; simp (disch := first | omega | assumption) only [qac, Option.map_some, Option.bind_some, qao, shut_strD, shut_agg, qay, qar, qaj, qad, qal, ofA3, packD, qa5, qbb, qbe, qaz, qai, qag, qam, canon_agg, qat, qan, qab, qae, qa9, ldc0, sto_sh0, stoc0, List.take_left', hln, hl0, hl1, hl2]); (with_reducible first | apply Tot.of (qaa rfl) | (apply Tot.lss_f; omega) | (apply Tot.eql_f; omega))))
      all_goals (((try conv => arg 2; simp (disch := first | omega | assumption) only [hS]); refine Tot.ret ?_); rw [encRx_mk])
  | cons x t ih =>
    intro i acc S d y ht hi hacc g
    have h1 := drop_lt ht
    have hx := idx_drop (f := encRx) ht 3 true .i64
    have hlen := congrArg List.length hacc
    simp only [List.length_append] at hlen
    refine Tot.eq (Tot.iter ?_)
    conv => arg 2; arg 1; unfold f54_s0
    by_cases hop : x.op = op
    · have hf : flat op (x :: t) = x.ks ++ flat op t := by simp [flat, hop]
      rw [hf, ← List.append_assoc] at hacc
      obtain ⟨d', S', hap, g'⟩ := g.appL [.cells [.int .i64 x.op, .str x.nm, encL 3 (x.ks.map encRx)]] (w := 48) (new := x.ks.map encRx) (by rw [hf] at hlen; simp at hlen ⊢; omega) (by omega)
      rw [← List.map_append] at g'
      (repeat' first | (with_reducible first | apply Tot.of (qaa rfl) | apply Tot.of (qaq rfl) | apply Tot.of (qa3 rfl) | apply Tot.of (qah rfl) | apply Tot.of (st_bnsum rfl) | apply Tot.of (st_inl rfl) | apply Tot.bql (b := true) | apply Tot.ift) | ((conv => arg 2; arg 1; simp (disch := first | omega | assumption) only [binO_add, qbi, qaf, qbf, qa4, ofCellsS, Nat.zero_add, Nat.add_zero, qa6, ofA3, qa5, qbb, qbe, qaz, qai, qa9, ldc0, sto_sh0, stoc0, hx, rx_cell, rx_lay, qbd, hap]); (with_reducible first | apply Tot.of (qaa rfl) | (apply Tot.lss_t; omega) | (apply Tot.eql_t; omega))))
      (refine Tot.of_eq ?_; (conv => lhs; simp (disch := first | omega | assumption) only [qa5, qbb, qbe]); have := ih (i + 1) (acc ++ x.ks) S' d' y (drop_succ ht) (by omega) hacc g'; simp only [Int.natCast_add, Int.natCast_one] at this; exact this)
    · have hf : flat op (x :: t) = [x] ++ flat op t := by simp [flat, hop]
      rw [hf, ← List.append_assoc] at hacc
      obtain ⟨d', S', hap, g'⟩ := g.app1 [.cells [.int .i64 x.op, .str x.nm, encL 3 (x.ks.map encRx)]] (w := 48) (x := encRx x) (by rw [hf] at hlen; simp at hlen ⊢; omega) (by omega)
      have hml : acc.map encRx ++ [encRx x] = (acc ++ [x]).map encRx := by simp
      rw [hml] at g'
      (repeat' first | (with_reducible first | apply Tot.of (qaa rfl) | apply Tot.of (qaq rfl) | apply Tot.of (qba rfl) | apply Tot.of (qa3 rfl) | apply Tot.of (qah rfl) | apply Tot.of (st_bnsum rfl) | apply Tot.of (st_inl rfl) | apply Tot.bql (b := true) | apply Tot.bql (b := false) | apply Tot.ift | apply Tot.iff) | ((conv => arg 2; arg 1; simp (disch := first | omega | assumption) only [binO_add, qbi, qaf, qbf, qa4, Nat.add_zero, qa6, ofA3, qa5, qbb, qbe, qaz, qai, qa9, ldc0, sto_sh0, stoc0, hx, rx_cell, rx_lay, qbd, hap, sp3_rx]); (with_reducible first | apply Tot.of (qaa rfl) | (apply Tot.lss_t; omega) | (apply Tot.eql_f; omega))))
      (refine Tot.of_eq ?_; (conv => lhs; simp (disch := first | omega | assumption) only [qa5, qbb, qbe]); have := ih (i + 1) (acc ++ [x]) S' d' d' (drop_succ ht) (by omega) hacc g'; simp only [Int.natCast_add, Int.natCast_one] at this; exact this)
theorem s54 (A : St) (op : Int) (l : List Rx) (hl : l.length ≤ 100000000) (hfl : (flat op l).length ≤ 100000000) : f54 mL (Run Tryd.prog rxA) (Dcall Tryd.prog rxA) (.int .i64 op) (encL 3 (l.map encRx)) A = some (.ret (encRx (joinK op (flat op l))), A) := by
  have := s54_loop A op l (.int .i64 0) (.str []) (.sl .full 0 []) hl hfl l 0 [] _ _ (.tup []) rfl (by omega) (by simp) (.nil _ _ _ [])
  unfold f54
  refine Tot.eq ?_
  (repeat' first | (with_reducible first | apply Tot.of (st_it rfl)) | ((conv => arg 2; arg 1; simp (disch := first | omega | assumption) only [qa6, qai, len_encL, List.length_map]); (with_reducible first | apply Tot.of (qaa rfl))))
  (refine Tot.of_eq ?_; (conv => lhs; simp (disch := first | omega | assumption) only [qai]); exact this)
end Go.Vm.Rx
