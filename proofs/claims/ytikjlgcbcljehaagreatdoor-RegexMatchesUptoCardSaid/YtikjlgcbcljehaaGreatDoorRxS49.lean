/- RxS47, RxS48, RxS49 in one text. -/
import Derived.Test.YtikjlgcbcljehaaGreatDoorRxM2
import Derived.Test.YtikjlgcbcljehaaGreatDoorRxS39
import Derived.Test.YtikjlgcbcljehaaGreatDoorRxS14
set_option linter.all false
/- The table of an expression: one device's part. -/
namespace Go.Vm.Rx
open Go Go.Proofs P
set_option linter.unusedVariables false
set_option linter.unusedSimpArgs false
set_option linter.unusedSectionVars false
set_option maxRecDepth 10000
set_option maxHeartbeats 4000000
theorem s46_loopL (A : St) (w : Str) (ws : List Str) (hl : ws.length ≤ 100000000) : ∀ (t : List Str) (i : Nat), ws.drop i = t → i ≤ ws.length →
    iterK (f46_s0 mL (Run Tryz.prog rxA) (Dcall Tryz.prog rxA) A) (Env.mk (sp [(0, encL 1 (ws.map .str)), (0, .str w), (5, .int .i64 (ws.length : Nat)), (0, .int .i64 (i : Nat))] 10) []) A = some (.ret (.int .i64 (idxStr w t i)), A) := by
  intro t
  induction t with
  | nil =>
    intro i ht hi
    have h1 := drop_len ht
    refine Tot.eq (Tot.iter ?_)
    conv => arg 2; arg 1; unfold f46_s0
    (repeat' first | (with_reducible first | apply Tot.of (qag rfl) | apply Tot.of (qa0 rfl) | apply Tot.of (qac rfl) | apply Tot.of (st_inr rfl) | apply Tot.of (qas rfl) | apply Tot.bql (b := false) | apply Tot.iff) | ((conv => arg 2; arg 1; simp (disch := first | omega | assumption) only [qah, Option.map_some, qa1, Kept_refl, qad, qaq, List.take_length, qai, qaj, qak, qaf, qam, qab, qal]); (with_reducible first | apply Tot.of (qaa rfl) | (apply Tot.lss_f; omega))))
    all_goals (((try conv => arg 2; simp (disch := first | omega | assumption) only []); refine Tot.ret ?_); rfl)
  | cons x t ih =>
    intro i ht hi
    have h1 := drop_lt ht
    have hx := idx_drop (f := D.str) ht 1 false .i64
    refine Tot.eq (Tot.iter ?_)
    conv => arg 2; arg 1; unfold f46_s0
    unfold idxStr
    by_cases he : w = x
    · rw [if_pos he]
      (repeat' first | (with_reducible first | apply Tot.of (qag rfl) | apply Tot.of (qa0 rfl) | apply Tot.of (qax rfl) | apply Tot.of (qac rfl) | apply Tot.of (st_inr rfl) | apply Tot.of (qas rfl) | apply Tot.bql (b := true) | apply Tot.ift) | ((conv => arg 2; arg 1; simp (disch := first | omega | assumption) only [qah, Option.map_some, qa1, Kept_refl, qad, qaq, qau, qao, List.take_length, qai, qaj, qak, mp_some, qam, qab, qal, cell_str, hx]); (with_reducible first | apply Tot.of (qaa rfl) | (apply Tot.lss_t; omega) | (apply Tot.seql_t; first | assumption | with_reducible rfl))))
      all_goals (((try conv => arg 2; simp (disch := first | omega | assumption) only []); refine Tot.ret ?_); rfl)
    · rw [if_neg he]
      (repeat' first | (with_reducible first | apply Tot.of (qaa rfl) | apply Tot.of (qag rfl) | apply Tot.of (qax rfl) | apply Tot.of (qac rfl) | apply Tot.of (qaw rfl) | apply Tot.of (qay rfl) | apply Tot.of (st_bngk rfl) | apply Tot.bql (b := true) | apply Tot.bql (b := false) | apply Tot.ift | apply Tot.iff) | ((conv => arg 2; arg 1; simp (disch := first | omega | assumption) only [qap, qan, Kept_refl, qau, qao, qai, qaj, qak, mp_some, qaf, cell_str, hx]); (with_reducible first | apply Tot.of (qaa rfl) | apply Tot.of (st_guard rfl) | (apply Tot.lss_t; omega) | (apply Tot.seql_f; first | assumption | decide | exact List.cons_ne_nil _ _))))
      (refine Tot.of_eq ?_; (conv => lhs; simp (disch := first | omega | assumption) only [qa1, shut_strD, List.take_length, List.map_nil, qai, qaj, qak]); rw [strs_shut]; have := ih (i + 1) (drop_succ ht) (by omega); simp only [Int.natCast_add, Int.natCast_one] at this; exact this)
theorem s23L (A : St) (w : Str) (ws : List Str) (hl : ws.length ≤ 100000000) :
    f23 mL (Run Tryz.prog rxA) (Dcall Tryz.prog rxA) (encL 1 (ws.map .str)) (.str w) A = some (.ret (.bool (decide (w ∈ ws))), A) := by
  have h1 : f46 mL (Run Tryz.prog rxA) (Dcall Tryz.prog rxA) (encL 1 (ws.map .str)) (.str w) A = some (.ret (.int .i64 (idxStr w ws 0)), A) := by
    have := s46_loopL A w ws hl ws 0 rfl (by omega)
    unfold f46
    refine Tot.eq ?_
    (repeat' first | (with_reducible first | apply Tot.of (st_it rfl)) | ((conv => arg 2; arg 1; simp (disch := first | omega | assumption) only [qaz, List.length_map]); (with_reducible first | apply Tot.of (qaa rfl))))
    (refine Tot.of_eq ?_; (conv => lhs; simp (disch := first | omega | assumption) only [qaf]); exact this)
  have h2 := idxStr_ge w ws 0 (by omega)
  unfold f23
  refine Tot.eq ?_
  by_cases h : w ∈ ws
  · have h3 := h2.2 h
    (repeat' first | (with_reducible first | apply Tot.of (qa3 rfl) | apply Tot.of (st_leave rfl)) | ((conv => arg 2; arg 1; simp (disch := first | omega | assumption) only [qaf, canon_str, r46, strs_canon, h1]); (with_reducible first | apply Tot.of (qaa rfl) | (apply Tot.geq_t; omega))))
    ((try conv => arg 2; simp (disch := first | omega | assumption) only [qah, qav, Kept_refl, qad, List.take_length, qat, qab, qal]); refine Tot.ret ?_)
    simp [h, h3]
  · have h3 : ¬ 0 ≤ idxStr w ws 0 := fun e => h (h2.1 e)
    (repeat' first | (with_reducible first | apply Tot.of (qa3 rfl) | apply Tot.of (st_leave rfl)) | ((conv => arg 2; arg 1; simp (disch := first | omega | assumption) only [qaf, canon_str, r46, strs_canon, h1]); (with_reducible first | apply Tot.of (qaa rfl) | (apply Tot.geq_f; omega))))
    ((try conv => arg 2; simp (disch := first | omega | assumption) only [qah, qav, Kept_refl, qad, List.take_length, qat, qab, qal]); refine Tot.ret ?_)
    simp [h, h3]
theorem get_end (S : St) (s : Slot) : (S ++ [s])[S.length]? = some s := by simp
def encWho (w : Who) : D := .agg [.str w.nm, encL 1 (w.cl.map .str)]
def WhoOk (w : Who) : Prop := w.nm.length ≤ 100000000 ∧ w.cl.length ≤ 100000000
theorem who_cell (w : Who) : (encWho w).cellsT true = some [.str w.nm, encL 1 (w.cl.map .str)] := rfl
theorem who_lay (w : Who) (a b : D) : layCells true 2 0 [a, b] (.agg [.str w.nm, encL 1 (w.cl.map .str)]) = some [.str w.nm, encL 1 (w.cl.map .str)] := rfl
theorem plainWho (w : Who) : Plain (encWho w) := by
  have h := encL_plain (plainStrs w.cl) 1
  refine ⟨fun n => ?_, ?_⟩
  · unfold encWho; simp only [D.shut, D.shutL, h.shut]
  · unfold encWho; simp only [D.canon, D.canonL, h.canon]
theorem plainWhos (l : List Who) : PlainL (l.map encWho) := PlainL.map plainWho l
theorem whos_canon (l : List Who) (n : Nat) : (encL n (l.map encWho)).canon = encL n (l.map encWho) := (encL_plain (plainWhos l) n).canon
/-- is a place's device one of a node without kids? -/
def leafC (op : Int) (nm : Str) (w : Who) : Bool := if op = 1 then decide (w.nm = nm) else if op = 2 then decide (nm ∈ w.cl) else true
/-- the table of a node without kids: from a place on -/
def leafM (op : Int) (nm : Str) : List Who → Nat → Mt → Mt
  | [], _, m => m
  | w :: t, i, m => leafM op nm t (i + 1) (updM m i (i + 1) (leafC op nm w))
theorem KeepS.set {S T : St} {k N : Nat} {m : Mt} {i j : Nat} {v : Bool} (h : KeepS S T) (hm : Mat T k N m) (hi : i < N) (hk : S.length ≤ k) : KeepS S (wrM T k N m i j v) := h.pres (wrM_pres hm hi v) hk
theorem s12_path (A A0 : St) (r : P.Rx) (hr : r.Ok) (p : List Who) (hp : ∀ w, w ∈ p → WhoOk w) (hn : p.length ≤ 900) (bx ko : Nat) (hbk : bx < ko) (h0 : A0.length ≤ bx) (Q : Res × St → Prop) :
    ∀ (t : List Who) (i : Nat) (S : St) (m : Mt), p.drop i = t → i + t.length = p.length → Mat S ko (p.length + 1) m → S[bx]? = some (.cells [.int .i64 r.op, .str r.nm, encL 3 (r.ks.map encRx)]) → KeepS A0 S →
    (∀ S', Mat S' ko (p.length + 1) (if r.op = 1 ∨ r.op = 2 ∨ r.op = 3 then leafM r.op r.nm t i m else m) → S'[bx]? = some (.cells [.int .i64 r.op, .str r.nm, encL 3 (r.ks.map encRx)]) → KeepS A0 S' →
      Tot Q (iterK (f12_s1 mL (Run Tryz.prog rxA) (Dcall Tryz.prog rxA) A) (Env.mk (sp [(1, encL 2 (p.map encWho)), (0, .ref bx 0), (2, .vsl ko 0 1 (p.length + 1)), (8, encL 2 (p.map encWho)), (0, .int .i64 (p.length : Nat)), (0, .int .i64 (p.length : Nat))] 93) []) S')) →
    Tot Q (iterK (f12_s1 mL (Run Tryz.prog rxA) (Dcall Tryz.prog rxA) A) (Env.mk (sp [(1, encL 2 (p.map encWho)), (0, .ref bx 0), (2, .vsl ko 0 1 (p.length + 1)), (8, encL 2 (p.map encWho)), (0, .int .i64 (p.length : Nat)), (0, .int .i64 (i : Nat))] 93) []) S) := by
  intro t
  induction t with
  | nil =>
    intro i S m ht hil hm hb hk hQ
    have : i = p.length := by simpa using hil
    subst this
    exact hQ S (by simpa [leafM] using hm) hb hk
  | cons w t ih =>
    intro i S m ht hil hm hb hk hQ
    have hlt := drop_lt ht
    have hx := idx_drop (f := encWho) ht 2 true .i64
    obtain ⟨hw1, hw2⟩ := hp w (drop_mem ht)
    have hi : i < p.length + 1 := by omega
    have hi1 : i + 1 < p.length + 1 := by omega
    have hkp := KeepS.app S [.cells [.str w.nm, encL 1 (w.cl.map .str)]]
    have hm1 := hm.keeps hkp
    have hb1 := (hkp.old bx (getE_lt hb)).trans hb
    have hk1 := hk.trans hkp
    have hld := fun gg m off => load_get hb1 (gg := gg) (m := m) (off := off)
    have hwl := fun gg m off => load_get (get_end S (.cells [.str w.nm, encL 1 (w.cl.map .str)])) (gg := gg) (m := m) (off := off)
    have hlen := hm.lt
    have hixi := fun q => ix_v (k := q) hi .i64
    have hix1 := fun q => ix_v (k := q) hi1 .i64
    rw [Int.natCast_add, Int.natCast_one] at hix1
    have hlr := ld_row hm1 hi
    have hst := fun v => sto_bit hm1 hi hi1 v
    have hln : (S ++ [Slot.cells [.str w.nm, encL 1 (w.cl.map .str)]]).length = S.length + 1 := by simp
    have hcon := fun A => s23L A r.nm w.cl hw2
    have go : r.op = 1 ∨ r.op = 2 ∨ r.op = 3 → Tot Q (iterK (f12_s1 mL (Run Tryz.prog rxA) (Dcall Tryz.prog rxA) A) (Env.mk (sp [(1, encL 2 (p.map encWho)), (0, .ref bx 0), (2, .vsl ko 0 1 (p.length + 1)), (8, encL 2 (p.map encWho)), (0, .int .i64 (p.length : Nat)), (0, .int .i64 ((i : Int) + 1))] 93) []) (wrM (S ++ [Slot.cells [.str w.nm, encL 1 (w.cl.map .str)]]) ko (p.length + 1) m i (i + 1) (leafC r.op r.nm w))) := by
      intro hop
      have := ih (i + 1) _ _ (drop_succ ht) (by simp only [List.length_cons] at hil; omega) (wrM_mat hm1 hi (leafC r.op r.nm w) (j := i + 1)) (((wrM_pres hm1 hi _).old bx (by omega)).trans hb1) (KeepS.set hk1 hm1 hi (by omega)) (fun S' h1 h2 h3 => hQ S' (by rw [if_pos hop] at h1 ⊢; exact h1) h2 h3)
      rw [Int.natCast_add, Int.natCast_one] at this
      exact this
    have go2 : ¬ (r.op = 1 ∨ r.op = 2 ∨ r.op = 3) → Tot Q (iterK (f12_s1 mL (Run Tryz.prog rxA) (Dcall Tryz.prog rxA) A) (Env.mk (sp [(1, encL 2 (p.map encWho)), (0, .ref bx 0), (2, .vsl ko 0 1 (p.length + 1)), (8, encL 2 (p.map encWho)), (0, .int .i64 (p.length : Nat)), (0, .int .i64 ((i : Int) + 1))] 93) []) (S ++ [Slot.cells [.str w.nm, encL 1 (w.cl.map .str)]])) := by
      intro hop
      have := ih (i + 1) _ m (drop_succ ht) (by simp only [List.length_cons] at hil; omega) hm1 hb1 hk1 (fun S' h1 h2 h3 => hQ S' (by rw [if_neg hop] at h1 ⊢; exact h1) h2 h3)
      rw [Int.natCast_add, Int.natCast_one] at this
      exact this
    refine Tot.iter ?_
    conv => arg 2; arg 1; unfold f12_s1
    by_cases o1 : r.op = 1
    · have g := go (.inl o1)
      unfold leafC at g
      rw [if_pos o1] at g
      by_cases hq : w.nm = r.nm
      · rw [decide_eq_true hq] at g
        (repeat' first | (with_reducible first | apply Tot.of (qaa rfl) | apply Tot.of (qag rfl) | apply Tot.of (qax rfl) | apply Tot.of (qac rfl) | apply Tot.of (st_bnsum rfl) | apply Tot.of (qaw rfl) | apply Tot.of (qay rfl) | apply Tot.of (st_guard rfl) | apply Tot.of (st_bngs rfl) | apply Tot.bql (b := true) | apply Tot.ift | (apply Tot.seql_t; first | assumption | with_reducible rfl)) | ((conv => arg 2; arg 1; simp (disch := first | omega | assumption) only [qap, qan, qae, qau, qao, ofCellsS, Nat.zero_add, Nat.add_zero, alloc_eq, ofA2, qai, qaj, qak, mp_some, qaf, sto_sh0, stoc0, hx, who_cell, who_lay, hld, hwl, hixi, hix1, hlr, hst]); (with_reducible first | apply Tot.of (qaa rfl) | (apply Tot.lss_t; omega) | (apply Tot.eql_t; omega))))
        conv => arg 2; simp (disch := first | omega | assumption) only [qai, qaj, qak]
        exact g
      · rw [decide_eq_false hq] at g
        (repeat' first | (with_reducible first | apply Tot.of (qaa rfl) | apply Tot.of (qag rfl) | apply Tot.of (qax rfl) | apply Tot.of (qac rfl) | apply Tot.of (st_bnsum rfl) | apply Tot.of (qaw rfl) | apply Tot.of (qay rfl) | apply Tot.of (st_guard rfl) | apply Tot.of (st_bngs rfl) | apply Tot.bql (b := true) | apply Tot.ift | (apply Tot.seql_f; first | assumption | decide | exact List.cons_ne_nil _ _)) | ((conv => arg 2; arg 1; simp (disch := first | omega | assumption) only [qap, qan, qae, qau, qao, ofCellsS, Nat.zero_add, Nat.add_zero, alloc_eq, ofA2, qai, qaj, qak, mp_some, qaf, sto_sh0, stoc0, hx, who_cell, who_lay, hld, hwl, hixi, hix1, hlr, hst]); (with_reducible first | apply Tot.of (qaa rfl) | (apply Tot.lss_t; omega) | (apply Tot.eql_t; omega))))
        conv => arg 2; simp (disch := first | omega | assumption) only [qai, qaj, qak]
        exact g
    · by_cases o2 : r.op = 2
      · have g := go (.inr (.inl o2))
        unfold leafC at g
        rw [if_neg o1, if_pos o2] at g
        (repeat' first | (with_reducible first | apply Tot.of (qaa rfl) | apply Tot.of (qag rfl) | apply Tot.of (qax rfl) | apply Tot.of (qac rfl) | apply Tot.of (st_bnelim rfl) | apply Tot.of (st_bnsum rfl) | apply Tot.of (qaw rfl) | apply Tot.of (qa3 rfl) | apply Tot.of (qay rfl) | apply Tot.of (st_bngs rfl) | apply Tot.bql (b := true) | apply Tot.bql (b := false) | apply Tot.ift | apply Tot.iff) | ((conv => arg 2; arg 1; simp (disch := first | omega | assumption) only [qap, qan, qae, qau, qao, ofCellsS, Nat.zero_add, Nat.add_zero, alloc_eq, ofA2, sameAd_refl, and_self, qai, qaj, qak, mp_some, qaf, canon_str, sto_sh0, stoc0, hx, who_cell, who_lay, hld, hwl, hixi, hix1, hlr, hst, r23, strs_canon, hcon]); (with_reducible first | apply Tot.of (qaa rfl) | apply Tot.of (st_guard rfl) | (apply Tot.lss_t; omega) | (apply Tot.eql_t; omega) | (apply Tot.eql_f; omega))))
        conv => arg 2; simp (disch := first | omega | assumption) only [qai, qaj, qak]
        exact g
      · by_cases o3 : r.op = 3
        · have g := go (.inr (.inr o3))
          unfold leafC at g
          rw [if_neg o1, if_neg o2] at g
          (repeat' first | (with_reducible first | apply Tot.of (qaa rfl) | apply Tot.of (qag rfl) | apply Tot.of (qax rfl) | apply Tot.of (qac rfl) | apply Tot.of (st_bnsum rfl) | apply Tot.of (qay rfl) | apply Tot.bql (b := true) | apply Tot.bql (b := false) | apply Tot.ift | apply Tot.iff) | ((conv => arg 2; arg 1; simp (disch := first | omega | assumption) only [qap, qan, qae, qau, qao, Nat.add_zero, alloc_eq, ofA2, qai, qaj, qak, mp_some, qaf, sto_sh0, stoc0, hx, who_cell, who_lay, hld, hixi, hix1, hlr, hst]); (with_reducible first | apply Tot.of (qaa rfl) | (apply Tot.lss_t; omega) | (apply Tot.eql_t; omega) | (apply Tot.eql_f; omega))))
          conv => arg 2; simp (disch := first | omega | assumption) only [qai, qaj, qak]
          exact g
        · have g := go2 (by omega)
          (repeat' first | (with_reducible first | apply Tot.of (qaa rfl) | apply Tot.of (qag rfl) | apply Tot.of (qax rfl) | apply Tot.of (qac rfl) | apply Tot.of (st_bnsum rfl) | apply Tot.of (qay rfl) | apply Tot.bql (b := true) | apply Tot.bql (b := false) | apply Tot.ift | apply Tot.iff) | ((conv => arg 2; arg 1; simp (disch := first | omega | assumption) only [qap, qan, qae, qau, qao, Nat.add_zero, alloc_eq, ofA2, qai, qaj, qak, mp_some, qaf, sto_sh0, stoc0, hx, who_cell, who_lay, hld]); (with_reducible first | apply Tot.of (qaa rfl) | (apply Tot.lss_t; omega) | (apply Tot.eql_f; omega))))
          conv => arg 2; simp (disch := first | omega | assumption) only [qai, qaj, qak]
          exact g
end Go.Vm.Rx

/- The table of an expression: its kids' parts. -/
namespace Go.Vm.Rx
open Go Go.Proofs P
set_option linter.unusedVariables false
set_option linter.unusedSimpArgs false
set_option linter.unusedSectionVars false
set_option maxRecDepth 10000
set_option maxHeartbeats 4000000
theorem leafM_lt (op : Int) (nm : Str) : ∀ (t : List Who) (i : Nat) (m : Mt) (a b : Nat), a < i → leafM op nm t i m a b = m a b
  | [], _, _, _, _, _ => rfl
  | w :: t, i, m, a, b, h => by
    unfold leafM
    rw [leafM_lt op nm t (i + 1) _ a b (by omega)]
    unfold updM
    rw [if_neg (by omega)]
theorem leafM_ge (op : Int) (nm : Str) : ∀ (t : List Who) (i : Nat) (m : Mt) (a b : Nat), i ≤ a → leafM op nm t i m a b = if b = a + 1 then (match t[a - i]? with | some w => leafC op nm w | none => m a b) else m a b
  | [], i, m, a, b, h => by simp [leafM]
  | w :: t, i, m, a, b, h => by
    unfold leafM
    rcases Nat.eq_or_lt_of_le h with rfl | h
    · rw [leafM_lt op nm t (i + 1) _ i b (by omega)]
      unfold updM
      by_cases e : b = i + 1
      · rw [if_pos ⟨rfl, e⟩, if_pos e]; simp
      · rw [if_neg (fun x => e x.2), if_neg e]
    · rw [leafM_ge op nm t (i + 1) _ a b (by omega)]
      have e : a - i = a - (i + 1) + 1 := by omega
      have u : updM m i (i + 1) (leafC op nm w) a b = m a b := by unfold updM; rw [if_neg (by omega)]
      rw [e, List.getElem?_cons_succ, u]
theorem sem1 (p : List Who) (nm : Str) (ks : List P.Rx) (i j : Nat) : Rx.sem p (.mk 1 nm ks) i j ↔ j = i + 1 ∧ ∃ w, p[i]? = some w ∧ w.nm = nm := by unfold Rx.sem; exact Iff.rfl
theorem sem2 (p : List Who) (nm : Str) (ks : List P.Rx) (i j : Nat) : Rx.sem p (.mk 2 nm ks) i j ↔ j = i + 1 ∧ ∃ w, p[i]? = some w ∧ nm ∈ w.cl := by unfold Rx.sem; exact Iff.rfl
theorem sem3 (p : List Who) (nm : Str) (ks : List P.Rx) (i j : Nat) : Rx.sem p (.mk 3 nm ks) i j ↔ j = i + 1 ∧ i < p.length := by unfold Rx.sem; exact Iff.rfl
theorem sem_6 {p : List Who} {r k : P.Rx} {i j : Nat} (h : r.op = 6) (hk : r.ks = [k]) : Rx.sem p r i j ↔ (i = j ∨ Plus (Rx.sem p k) i j) := by
  obtain ⟨op, nm, ks⟩ := r
  cases (h : op = 6); cases (hk : ks = [k])
  exact sem6 p nm i j k
theorem sem_7 {p : List Who} {r k : P.Rx} {i j : Nat} (h : r.op = 7) (hk : r.ks = [k]) : Rx.sem p r i j ↔ Plus (Rx.sem p k) i j := by
  obtain ⟨op, nm, ks⟩ := r
  cases (h : op = 7); cases (hk : ks = [k])
  exact sem7 p nm i j k
theorem sem_8 {p : List Who} {r k : P.Rx} {i j : Nat} (h : r.op = 8) (hk : r.ks = [k]) : Rx.sem p r i j ↔ (i = j ∨ Rx.sem p k i j) := by
  obtain ⟨op, nm, ks⟩ := r
  cases (h : op = 8); cases (hk : ks = [k])
  exact sem8 p nm i j k
theorem sem_4 {p : List Who} {r : P.Rx} {i j : Nat} (h : r.op = 4) : Rx.sem p r i j ↔ Rx.semSeq p r.ks i j := by
  obtain ⟨op, nm, ks⟩ := r
  cases (h : op = 4)
  exact sem4 p nm ks i j
theorem sem_5 {p : List Who} {r : P.Rx} {i j : Nat} (h : r.op = 5) : Rx.sem p r i j ↔ Rx.semAlt p r.ks i j := by
  obtain ⟨op, nm, ks⟩ := r
  cases (h : op = 5)
  exact sem5 p nm ks i j
theorem leaf_is (p : List Who) (r : P.Rx) (h : r.op = 1 ∨ r.op = 2 ∨ r.op = 3) : Is (p.length + 1) (leafM r.op r.nm p 0 fun _ _ => false) (Rx.sem p r) := by
  obtain ⟨op, nm, ks⟩ := r
  intro i j hi hj
  rw [leafM_ge _ _ _ _ _ _ _ (Nat.zero_le _), Nat.sub_zero]
  simp only [Rx.op, Rx.nm] at h ⊢
  have hin : i < p.length ↔ ∃ w, p[i]? = some w := by
    constructor
    · exact fun h => ⟨p[i], List.getElem?_eq_getElem h⟩
    · rintro ⟨w, hw⟩
      rcases Nat.lt_or_ge i p.length with h | h
      · exact h
      · rw [List.getElem?_eq_none h] at hw; cases hw
  rcases h with rfl | rfl | rfl
  · rw [sem1]
    by_cases e : j = i + 1
    · rw [if_pos e]
      cases hw : p[i]? with
      | none => simp
      | some w => simp [leafC, e]
    · rw [if_neg e]; simp [e]
  · rw [sem2]
    by_cases e : j = i + 1
    · rw [if_pos e]
      cases hw : p[i]? with
      | none => simp
      | some w => simp [leafC, e]
    · rw [if_neg e]; simp [e]
  · rw [sem3, hin]
    by_cases e : j = i + 1
    · rw [if_pos e]
      cases hw : p[i]? with
      | none => simp
      | some w => simp [leafC, e]
    · rw [if_neg e]; simp [e]
/-- a table of an expression, somewhere behind the store -/
def FindOut (p : List Who) (R : Nat → Nat → Prop) (S : St) (x : Res × St) : Prop := ∃ k m S', x = (.ret (.vsl k 0 1 (p.length + 1)), S') ∧ Mat S' k (p.length + 1) m ∧ Is (p.length + 1) m R ∧ S.length ≤ k ∧ KeepS S S'
def FSpec (p : List Who) (r : P.Rx) : Prop := ∀ S, Tot (FindOut p (Rx.sem p r) S) (f12 mL (Run Tryz.prog rxA) (Dcall Tryz.prog rxA) (encRx r) (encL 2 (p.map encWho)) S)
theorem Is.congr {N : Nat} {m : Mt} {R Q : Nat → Nat → Prop} (h : Is N m R) (e : ∀ i j, R i j ↔ Q i j) : Is N m Q := fun i j hi hj => (h i j hi hj).trans (e i j)
theorem semSeq_snoc (p : List Who) (pre : List P.Rx) (k : P.Rx) (i j : Nat) : (∃ q, Rx.semSeq p pre i q ∧ Rx.sem p k q j) ↔ Rx.semSeq p (pre ++ [k]) i j := by
  rw [semSeq_app]
  simp only [semSeq_one]
theorem semAlt_snoc (p : List Who) (pre : List P.Rx) (k : P.Rx) (i j : Nat) : (Rx.semAlt p pre i j ∨ Rx.sem p k i j) ↔ Rx.semAlt p (pre ++ [k]) i j := by
  rw [semAlt_app, semAlt_one]
section
variable (p : List Who) (r : P.Rx) (hr : r.Ok) (hn : p.length ≤ 900) (A : St)
include hr hn
/-- the kids are at an end -/
theorem s12_end (ko : Nat) (m : Mt) (R : Nat → Nat → Prop) (S : St) (hm : Mat S ko (p.length + 1) m) (his : Is (p.length + 1) m R) (hko : A.length ≤ ko) (hk : KeepS A S) :
    Tot (FindOut p R A) (iterK (f12_s0 mL (Run Tryz.prog rxA) (Dcall Tryz.prog rxA) A) (Env.mk (sp [(1, encL 2 (p.map encWho)), (0, .ref A.length 0), (2, .vsl ko 0 1 (p.length + 1)), (62, encL 3 (r.ks.map encRx)), (0, .int .i64 (r.ks.length : Nat)), (0, .int .i64 (r.ks.length : Nat))] 39) []) S) := by
  have hl := hr.len
  refine Tot.iter ?_
  conv => arg 2; arg 1; unfold f12_s0
  (repeat' first | (with_reducible first | apply Tot.of (qag rfl) | apply Tot.of (qa0 rfl) | apply Tot.of (qac rfl) | apply Tot.of (st_inr rfl) | apply Tot.of (qas rfl) | apply Tot.bql (b := false) | apply Tot.iff) | ((conv => arg 2; arg 1; simp (disch := first | omega | assumption) only [Option.map_some, leave_keep, qaq, qai, qaj, qak]); (with_reducible first | apply Tot.of (qaa rfl) | (apply Tot.lss_f; omega))))
  ((try conv => arg 2; simp (disch := first | omega | assumption) only []); refine Tot.ret ?_)
  exact ⟨ko, m, S, rfl, hm, his, hko, hk⟩
theorem keep_box {S : St} {c : Slot} (hk : KeepS (A ++ [c]) S) : S[A.length]? = some c ∧ KeepS A S := by
  refine ⟨?_, (KeepS.app A [c]).trans hk⟩
  rw [hk.old A.length (by simp)]
  simp
/-- one behind the other -/
theorem s12_seq (ho : r.op = 4) (hkd : ∀ k, k ∈ r.ks → FSpec p k) : ∀ (t pre : List P.Rx) (ko : Nat) (m : Mt) (S : St), pre ++ t = r.ks → Mat S ko (p.length + 1) m → Is (p.length + 1) m (Rx.semSeq p pre) → A.length + 1 ≤ ko → KeepS (A ++ [.cells [.int .i64 r.op, .str r.nm, encL 3 (r.ks.map encRx)]]) S →
    Tot (FindOut p (Rx.semSeq p r.ks) A) (iterK (f12_s0 mL (Run Tryz.prog rxA) (Dcall Tryz.prog rxA) A) (Env.mk (sp [(1, encL 2 (p.map encWho)), (0, .ref A.length 0), (2, .vsl ko 0 1 (p.length + 1)), (62, encL 3 (r.ks.map encRx)), (0, .int .i64 (r.ks.length : Nat)), (0, .int .i64 (pre.length : Nat))] 39) []) S) := by
  intro t
  have hl := hr.len
  induction t with
  | nil =>
    intro pre ko m S hpt hm his hko hk
    simp only [List.append_nil] at hpt
    rw [hpt] at his ⊢
    exact s12_end p r hr hn A ko m _ S hm his (by omega) (keep_box p r hr hn A hk).2
  | cons k t ih =>
    intro pre ko m S hpt hm his hko hk
    have hmem : k ∈ r.ks := by rw [← hpt]; simp
    have hpl := congrArg List.length hpt
    simp only [List.length_append, List.length_cons] at hpl
    have hx := idx_drop (f := encRx) (l := r.ks) (i := pre.length) (x := k) (t := t) (by rw [← hpt]; simp) 3 true .i64
    have hkp := KeepS.app S [.cells [.int .i64 k.op, .str k.nm, encL 3 (k.ks.map encRx)]]
    obtain ⟨_, hq, k', m', S2, rfl, hm', his', hk', hkk⟩ := hkd k hmem (S ++ [.cells [.int .i64 k.op, .str k.nm, encL 3 (k.ks.map encRx)]])
    have hm2 := (hm.keeps hkp).keeps hkk
    have hk2 := (hk.trans hkp).trans hkk
    obtain ⟨S3, g1, g2, g3⟩ := NewM.get (s25_ S2 ko k' p.length m m' (by omega) hm2 hm')
    have his3 := (then_is his his' (seq_le p pre) (sem_le p k)).congr fun i j => semSeq_snoc p pre k i j
    have hk3 := hk2.trans g3
    have hld := fun gg m off => load_get (keep_box p r hr hn A hk2).1 (gg := gg) (m := m) (off := off)
    have hl2 := hm'.lt
    have := ih (pre ++ [k]) S2.length _ S3 (by simp [← hpt]) g2 his3 (by have := hk2.len; simp at this; omega) hk3
    have e : ((pre ++ [k]).length : Int) = (pre.length : Int) + 1 := by simp
    rw [e] at this
    refine Tot.iter ?_
    conv => arg 2; arg 1; unfold f12_s0
    (repeat' first | (with_reducible first | apply Tot.of (qaa rfl) | apply Tot.of (qag rfl) | apply Tot.of (qax rfl) | apply Tot.of (qac rfl) | apply Tot.of (st_bnelim rfl) | apply Tot.of (st_bnsum rfl) | apply Tot.of (qa3 rfl) | apply Tot.of (qay rfl) | apply Tot.bql (b := true) | apply Tot.ift) | ((conv => arg 2; arg 1; simp (disch := first | omega | assumption) only [qap, qan, qae, qau, qao, Nat.add_zero, alloc_eq, ofA3, qai, qaj, qak, mp_some, qaf, canon_vsl, ld_sh0, ldc0, sto_sh0, stoc0, hx, rx_cell, rx_fold, rx_canon, rx_lay, whos_canon, r12, hq, hld, r25, g1]); (with_reducible first | apply Tot.of (qaa rfl) | (apply Tot.lss_t; omega) | (apply Tot.eql_t; omega))))
    conv => arg 2; simp (disch := first | omega | assumption) only [qai, qaj, qak]
    exact this
/-- either -/
theorem s12_alt (ho : r.op = 5) (hkd : ∀ k, k ∈ r.ks → FSpec p k) : ∀ (t pre : List P.Rx) (ko : Nat) (m : Mt) (S : St), pre ++ t = r.ks → Mat S ko (p.length + 1) m → Is (p.length + 1) m (Rx.semAlt p pre) → A.length + 1 ≤ ko → KeepS (A ++ [.cells [.int .i64 r.op, .str r.nm, encL 3 (r.ks.map encRx)]]) S →
    Tot (FindOut p (Rx.semAlt p r.ks) A) (iterK (f12_s0 mL (Run Tryz.prog rxA) (Dcall Tryz.prog rxA) A) (Env.mk (sp [(1, encL 2 (p.map encWho)), (0, .ref A.length 0), (2, .vsl ko 0 1 (p.length + 1)), (62, encL 3 (r.ks.map encRx)), (0, .int .i64 (r.ks.length : Nat)), (0, .int .i64 (pre.length : Nat))] 39) []) S) := by
  intro t
  have hl := hr.len
  induction t with
  | nil =>
    intro pre ko m S hpt hm his hko hk
    simp only [List.append_nil] at hpt
    rw [hpt] at his ⊢
    exact s12_end p r hr hn A ko m _ S hm his (by omega) (keep_box p r hr hn A hk).2
  | cons k t ih =>
    intro pre ko m S hpt hm his hko hk
    have hmem : k ∈ r.ks := by rw [← hpt]; simp
    have hpl := congrArg List.length hpt
    simp only [List.length_append, List.length_cons] at hpl
    have hx := idx_drop (f := encRx) (l := r.ks) (i := pre.length) (x := k) (t := t) (by rw [← hpt]; simp) 3 true .i64
    have hkp := KeepS.app S [.cells [.int .i64 k.op, .str k.nm, encL 3 (k.ks.map encRx)]]
    obtain ⟨_, hq, k', m', S2, rfl, hm', his', hk', hkk⟩ := hkd k hmem (S ++ [.cells [.int .i64 k.op, .str k.nm, encL 3 (k.ks.map encRx)]])
    have hlt := hm.lt
    have hm2 := (hm.keeps hkp).keeps hkk
    have hk2 := (hk.trans hkp).trans hkk
    simp only [List.length_append, List.length_cons, List.length_nil] at hk'
    obtain ⟨S3, g1, g2, g3⟩ := OldM.get (s26 A S2 ko k' (p.length + 1) m m' (by omega) (.inl (by omega)) hm2 hm')
    have his3 := (or_is his his').congr fun i j => semAlt_snoc p pre k i j
    have hk3 := hk2.pres g3 (by simp; omega)
    have hld := fun gg m off => load_get (keep_box p r hr hn A hk2).1 (gg := gg) (m := m) (off := off)
    have := ih (pre ++ [k]) ko _ S3 (by simp [← hpt]) g2 his3 hko hk3
    have e : ((pre ++ [k]).length : Int) = (pre.length : Int) + 1 := by simp
    rw [e] at this
    refine Tot.iter ?_
    conv => arg 2; arg 1; unfold f12_s0
    (repeat' first | (with_reducible first | apply Tot.of (qaa rfl) | apply Tot.of (qag rfl) | apply Tot.of (qax rfl) | apply Tot.of (qac rfl) | apply Tot.of (st_bnelim rfl) | apply Tot.of (st_bnsum rfl) | apply Tot.of (qa3 rfl) | apply Tot.of (qay rfl) | apply Tot.bql (b := true) | apply Tot.bql (b := false) | apply Tot.ift | apply Tot.iff) | ((conv => arg 2; arg 1; simp (disch := first | omega | assumption) only [qap, qan, qae, qau, qao, Nat.add_zero, alloc_eq, ofA3, qai, qaj, qak, mp_some, qaf, canon_vsl, ld_sh0, ldc0, sto_sh0, stoc0, hx, rx_cell, rx_fold, rx_canon, rx_lay, whos_canon, r12, hq, hld, r26, g1]); (with_reducible first | apply Tot.of (qaa rfl) | (apply Tot.lss_t; omega) | (apply Tot.eql_t; omega) | (apply Tot.eql_f; omega))))
    conv => arg 2; simp (disch := first | omega | assumption) only [qai, qaj, qak]
    exact this
/-- with a mark -/
theorem s12_mark (k : P.Rx) (hks : r.ks = [k]) (ho : r.op = 6 ∨ r.op = 7 ∨ r.op = 8) (hkd : FSpec p k) (ko : Nat) (m : Mt) (S : St) (hm : Mat S ko (p.length + 1) m) (hko : A.length + 1 ≤ ko) (hk : KeepS (A ++ [.cells [.int .i64 r.op, .str r.nm, encL 3 (r.ks.map encRx)]]) S) :
    Tot (FindOut p (Rx.sem p r) A) (iterK (f12_s0 mL (Run Tryz.prog rxA) (Dcall Tryz.prog rxA) A) (Env.mk (sp [(1, encL 2 (p.map encWho)), (0, .ref A.length 0), (2, .vsl ko 0 1 (p.length + 1)), (62, encL 3 (r.ks.map encRx)), (0, .int .i64 (r.ks.length : Nat)), (0, .int .i64 0)] 39) []) S) := by
  have hl1 : r.ks.length = 1 := by rw [hks]; rfl
  have hx := idx_drop (f := encRx) (l := r.ks) (i := 0) (x := k) (t := []) (by rw [hks]; rfl) 3 true .i64
  rw [Int.natCast_zero] at hx
  have hkp := KeepS.app S [.cells [.int .i64 k.op, .str k.nm, encL 3 (k.ks.map encRx)]]
  obtain ⟨_, hq, k', m', S2, rfl, hm', his', hk', hkk⟩ := hkd (S ++ [.cells [.int .i64 k.op, .str k.nm, encL 3 (k.ks.map encRx)]])
  have hk2 := (hk.trans hkp).trans hkk
  have hld := fun gg m off => load_get (keep_box p r hr hn A hk2).1 (gg := gg) (m := m) (off := off)
  have hl2 := hm'.lt
  have hlA := hk2.len
  simp only [List.length_append, List.length_cons, List.length_nil] at hlA
  have hpl : lenSlO (encL 2 (p.map encWho)) = some (.int .i64 (p.length : Nat)) := by simp
  rcases ho with ho | ho | ho
  · obtain ⟨S3, g1, g2, g3⟩ := NewM.get (s24 S2 p.length (by omega))
    have hl3 := g2.lt
    obtain ⟨S4, f1, f2, f3⟩ := NewM.get (s27_ S3 k' p.length m' (by omega) (hm'.keeps g3))
    obtain ⟨S5, e1, e2, e3⟩ := OldM.get (s26 A S4 S2.length S3.length (p.length + 1) _ _ (by omega) (.inl (by omega)) (g2.keeps f3) f2)
    have hk5 := ((hk2.trans g3).trans f3).pres e3 (by simp; omega)
    have his5 := (or_is (id_is (p.length + 1)) (again_is his' (sem_le p k))).congr fun i j => (sem_6 ho hks).symm
    have := s12_end p r hr hn A _ _ _ S5 e2 his5 (by omega) (keep_box p r hr hn A hk5).2
    simp only [hl1, Int.natCast_one] at this
    refine Tot.iter ?_
    conv => arg 2; arg 1; unfold f12_s0
    (repeat' first | (with_reducible first | apply Tot.of (qaa rfl) | apply Tot.of (qag rfl) | apply Tot.of (qax rfl) | apply Tot.of (qac rfl) | apply Tot.of (st_bnelim rfl) | apply Tot.of (st_bnsum rfl) | apply Tot.of (qa3 rfl) | apply Tot.of (qay rfl) | apply Tot.bql (b := true) | apply Tot.bql (b := false) | apply Tot.ift | apply Tot.iff) | ((conv => arg 2; arg 1; simp (disch := first | omega | assumption) only [qap, qan, qae, qau, qao, Nat.add_zero, alloc_eq, ofA3, qai, qaj, qak, mp_some, qaf, qam, canon_vsl, qaz, ld_sh0, ldc0, sto_sh0, stoc0, List.length_map, Int.reduceAdd, hx, rx_cell, rx_fold, rx_canon, rx_lay, whos_canon, r12, hq, hld, r24, g1, r27, f1, r26, e1]); (with_reducible first | apply Tot.of (qaa rfl) | (apply Tot.lss_t; omega) | (apply Tot.eql_t; omega) | (apply Tot.eql_f; omega))))
    conv => arg 2; simp (disch := first | omega | assumption) only [qai, qaj, qak]
    simp only [hl1, Int.natCast_one]
    exact this
  · obtain ⟨S4, f1, f2, f3⟩ := NewM.get (s27_ S2 k' p.length m' (by omega) hm')
    have hk5 := hk2.trans f3
    have his5 := (again_is his' (sem_le p k)).congr fun i j => (sem_7 ho hks).symm
    have := s12_end p r hr hn A _ _ _ S4 f2 his5 (by omega) (keep_box p r hr hn A hk5).2
    simp only [hl1, Int.natCast_one] at this
    refine Tot.iter ?_
    conv => arg 2; arg 1; unfold f12_s0
    (repeat' first | (with_reducible first | apply Tot.of (qaa rfl) | apply Tot.of (qag rfl) | apply Tot.of (qax rfl) | apply Tot.of (qac rfl) | apply Tot.of (st_bnelim rfl) | apply Tot.of (st_bnsum rfl) | apply Tot.of (qa3 rfl) | apply Tot.of (qay rfl) | apply Tot.bql (b := true) | apply Tot.bql (b := false) | apply Tot.ift | apply Tot.iff) | ((conv => arg 2; arg 1; simp (disch := first | omega | assumption) only [qap, qan, qae, qau, qao, Nat.add_zero, alloc_eq, ofA3, qai, qaj, qak, mp_some, qaf, canon_vsl, ld_sh0, ldc0, sto_sh0, stoc0, Int.reduceAdd, hx, rx_cell, rx_fold, rx_canon, rx_lay, whos_canon, r12, hq, hld, r27, f1]); (with_reducible first | apply Tot.of (qaa rfl) | (apply Tot.lss_t; omega) | (apply Tot.eql_t; omega) | (apply Tot.eql_f; omega))))
    conv => arg 2; simp (disch := first | omega | assumption) only [qai, qaj, qak]
    simp only [hl1, Int.natCast_one]
    exact this
  · obtain ⟨S3, g1, g2, g3⟩ := NewM.get (s24 S2 p.length (by omega))
    obtain ⟨S5, e1, e2, e3⟩ := OldM.get (s26 A S3 S2.length k' (p.length + 1) _ _ (by omega) (.inr (by omega)) g2 (hm'.keeps g3))
    have hk5 := (hk2.trans g3).pres e3 (by simp; omega)
    have his5 := (or_is (id_is (p.length + 1)) his').congr fun i j => (sem_8 ho hks).symm
    have := s12_end p r hr hn A _ _ _ S5 e2 his5 (by omega) (keep_box p r hr hn A hk5).2
    simp only [hl1, Int.natCast_one] at this
    refine Tot.iter ?_
    conv => arg 2; arg 1; unfold f12_s0
    (repeat' first | (with_reducible first | apply Tot.of (qaa rfl) | apply Tot.of (qag rfl) | apply Tot.of (qax rfl) | apply Tot.of (qac rfl) | apply Tot.of (st_bnelim rfl) | apply Tot.of (st_bnsum rfl) | apply Tot.of (qa3 rfl) | apply Tot.of (qay rfl) | apply Tot.bql (b := true) | apply Tot.bql (b := false) | apply Tot.ift | apply Tot.iff) | ((conv => arg 2; arg 1; simp (disch := first | omega | assumption) only [qap, qan, qae, qau, qao, Nat.add_zero, alloc_eq, ofA3, qai, qaj, qak, mp_some, qaf, qam, canon_vsl, qaz, ld_sh0, ldc0, sto_sh0, stoc0, List.length_map, Int.reduceAdd, hx, rx_cell, rx_fold, rx_canon, rx_lay, whos_canon, r12, hq, hld, r24, g1, r26, e1]); (with_reducible first | apply Tot.of (qaa rfl) | (apply Tot.lss_t; omega) | (apply Tot.eql_t; omega) | (apply Tot.eql_f; omega))))
    conv => arg 2; simp (disch := first | omega | assumption) only [qai, qaj, qak]
    simp only [hl1, Int.natCast_one]
    exact this
end
end Go.Vm.Rx

/- Match: which paths are of an expression. -/
namespace Go.Vm.Rx
open Go Go.Proofs P
set_option linter.unusedVariables false
set_option linter.unusedSimpArgs false
set_option linter.unusedSectionVars false
set_option maxRecDepth 10000
set_option maxHeartbeats 4000000
theorem keep_make {A S : St} {c : Slot} (h : KeepS A S) (hb : S[A.length]? = some c) : KeepS (A ++ [c]) S := by
  refine ⟨by have := getE_lt hb; simp; omega, fun j hj => ?_⟩
  simp only [List.length_append, List.length_cons, List.length_nil] at hj
  rcases Nat.lt_or_ge j A.length with h1 | h1
  · rw [h.old j h1, List.getElem?_append_left h1]
  · have : j = A.length := by omega
    subst this
    rw [hb]; simp
theorem s12 (p : List Who) (hp : ∀ w, w ∈ p → WhoOk w) (hn : p.length ≤ 900) : ∀ (r : P.Rx) (hr : r.Ok) (hrt : r.right = true), FSpec p r := by
  refine Rx.ind fun r ih hr hrt A => ?_
  have hrt0 := hrt
  rw [Rx.right_eq, Bool.and_eq_true] at hrt
  obtain ⟨hno, hrs⟩ := hrt
  have hkd : ∀ k, k ∈ r.ks → FSpec p k := fun k hk => ih k hk (hr.kid hk) (rights_mem hrs k hk)
  have hl := hr.len
  have hpl : lenSlO (encL 2 (p.map encWho)) = some (.int .i64 (p.length : Nat)) := by simp
  obtain ⟨S1, g1, g2, g3⟩ := NewM.get (s22 (A ++ [.cells [.int .i64 r.op, .str r.nm, encL 3 (r.ks.map encRx)]]) p.length (by omega))
  have hb1 := (keep_box p r hr hn A g3).1
  have hk1 := (keep_box p r hr hn A g3).2
  have hln : (A ++ [Slot.cells [.int .i64 r.op, .str r.nm, encL 3 (r.ks.map encRx)]]).length = A.length + 1 := by simp
  rw [hln] at g1 g2
  have key : Tot (FindOut p (Rx.sem p r) A) (iterK (f12_s1 mL (Run Tryz.prog rxA) (Dcall Tryz.prog rxA) A) (Env.mk (sp [(1, encL 2 (p.map encWho)), (0, .ref A.length 0), (2, .vsl (A.length + 1) 0 1 (p.length + 1)), (8, encL 2 (p.map encWho)), (0, .int .i64 (p.length : Nat)), (0, .int .i64 (0 : Nat))] 93) []) S1) := by
    refine s12_path A A r hr p hp hn A.length (A.length + 1) (by omega) (Nat.le_refl _) _ p 0 S1 _ rfl (by omega) g2 hb1 hk1 fun S' h1 h2 h3 => ?_
    have hld := fun gg m off => load_get h2 (gg := gg) (m := m) (off := off)
    have hk' := keep_make h3 h2
    refine Tot.iter ?_
    conv => arg 2; arg 1; unfold f12_s1
    rcases nodeOk_cases hno with ⟨h0, hnm, hks⟩ | ⟨h0, hnm, hks⟩ | ⟨h0, hnm, _, _⟩ | ⟨h0, hnm, _, _⟩ | ⟨h0, hnm, k, hks⟩
    · have hop : r.op = 1 ∨ r.op = 2 ∨ r.op = 3 := by omega
      rw [if_pos hop] at h1
      have := s12_end p r hr hn A _ _ _ S' h1 (leaf_is p r hop) (by omega) h3
      have hl0 : r.ks.length = 0 := by rw [hks]; rfl
      simp only [hl0, Int.natCast_zero] at this
      (repeat' first | (with_reducible first | apply Tot.of (qaa rfl) | apply Tot.of (qag rfl) | apply Tot.of (qa0 rfl) | apply Tot.of (qax rfl) | apply Tot.of (qac rfl) | apply Tot.of (st_bnsum rfl) | apply Tot.of (qay rfl) | apply Tot.of (st_bnit rfl) | apply Tot.bql (b := false) | apply Tot.iff) | ((conv => arg 2; arg 1; simp (disch := first | omega | assumption) only [qae, qao, ofCellsS, Nat.zero_add, Nat.add_zero, qai, qaj, qak, qaf, qaz, List.length_map, hld]); (with_reducible first | apply Tot.of (qaa rfl) | (apply Tot.lss_f; omega) | (apply Tot.eql_f; omega))))
      conv => arg 2; simp (disch := first | omega | assumption) only [Sum.elim_inr, qai, qaj, qak, qaf]
      simp only [hl0, Int.natCast_zero, bn_id]
      exact this
    · have hop : r.op = 1 ∨ r.op = 2 ∨ r.op = 3 := by omega
      rw [if_pos hop] at h1
      have := s12_end p r hr hn A _ _ _ S' h1 (leaf_is p r hop) (by omega) h3
      have hl0 : r.ks.length = 0 := by rw [hks]; rfl
      simp only [hl0, Int.natCast_zero] at this
      (repeat' first | (with_reducible first | apply Tot.of (qaa rfl) | apply Tot.of (qag rfl) | apply Tot.of (qa0 rfl) | apply Tot.of (qax rfl) | apply Tot.of (qac rfl) | apply Tot.of (st_bnsum rfl) | apply Tot.of (qay rfl) | apply Tot.of (st_bnit rfl) | apply Tot.bql (b := false) | apply Tot.iff) | ((conv => arg 2; arg 1; simp (disch := first | omega | assumption) only [qae, qao, ofCellsS, Nat.zero_add, Nat.add_zero, qai, qaj, qak, qaf, qaz, List.length_map, hld]); (with_reducible first | apply Tot.of (qaa rfl) | (apply Tot.lss_f; omega) | (apply Tot.eql_f; omega))))
      conv => arg 2; simp (disch := first | omega | assumption) only [Sum.elim_inr, qai, qaj, qak, qaf]
      simp only [hl0, Int.natCast_zero, bn_id]
      exact this
    · obtain ⟨S2, f1, f2, f3⟩ := NewM.get (s24 S' p.length (by omega))
      have hk2 := hk'.trans f3
      have hld2 := fun gg m off => load_get (keep_box p r hr hn A hk2).1 (gg := gg) (m := m) (off := off)
      have := s12_seq p r hr hn A h0 hkd r.ks [] S'.length _ S2 rfl f2 ((id_is (p.length + 1)).congr fun i j => by unfold Rx.semSeq; exact Iff.rfl) (by have := getE_lt h2; omega) hk2
      simp only [List.length_nil, Int.natCast_zero] at this
      have this := this.mono fun x ⟨k, m, T, q1, q2, q3, q4, q5⟩ => (⟨k, m, T, q1, q2, q3.congr fun i j => (sem_4 h0).symm, q4, q5⟩ : FindOut p (Rx.sem p r) A x)
      (repeat' first | (with_reducible first | apply Tot.of (qaa rfl) | apply Tot.of (qag rfl) | apply Tot.of (qa0 rfl) | apply Tot.of (qax rfl) | apply Tot.of (qac rfl) | apply Tot.of (st_bnelim rfl) | apply Tot.of (st_bnsum rfl) | apply Tot.of (qa3 rfl) | apply Tot.of (qay rfl) | apply Tot.of (st_bnit rfl) | apply Tot.bql (b := true) | apply Tot.bql (b := false) | apply Tot.ift | apply Tot.iff) | ((conv => arg 2; arg 1; simp (disch := first | omega | assumption) only [qae, qao, ofCellsS, Nat.zero_add, Nat.add_zero, qai, qaj, qak, qaf, qam, qaz, List.length_map, hld, hld2, r24, f1]); (with_reducible first | apply Tot.of (qaa rfl) | (apply Tot.lss_f; omega) | (apply Tot.eql_t; omega))))
      conv => arg 2; simp (disch := first | omega | assumption) only [Sum.elim_inr, qai, qaj, qak, qaf]
      simp only [bn_id]
      exact this
    · have hop : ¬ (r.op = 1 ∨ r.op = 2 ∨ r.op = 3) := by omega
      rw [if_neg hop] at h1
      have := s12_alt p r hr hn A h0 hkd r.ks [] (A.length + 1) _ S' rfl h1 (fun i j _ _ => by unfold Rx.semAlt; simp) (by omega) hk'
      simp only [List.length_nil, Int.natCast_zero] at this
      have this := this.mono fun x ⟨k, m, T, q1, q2, q3, q4, q5⟩ => (⟨k, m, T, q1, q2, q3.congr fun i j => (sem_5 h0).symm, q4, q5⟩ : FindOut p (Rx.sem p r) A x)
      (repeat' first | (with_reducible first | apply Tot.of (qaa rfl) | apply Tot.of (qag rfl) | apply Tot.of (qa0 rfl) | apply Tot.of (qax rfl) | apply Tot.of (qac rfl) | apply Tot.of (st_bnsum rfl) | apply Tot.of (qay rfl) | apply Tot.of (st_bnit rfl) | apply Tot.bql (b := false) | apply Tot.iff) | ((conv => arg 2; arg 1; simp (disch := first | omega | assumption) only [qae, qao, ofCellsS, Nat.zero_add, Nat.add_zero, qai, qaj, qak, qaf, qaz, List.length_map, hld]); (with_reducible first | apply Tot.of (qaa rfl) | (apply Tot.lss_f; omega) | (apply Tot.eql_f; omega))))
      conv => arg 2; simp (disch := first | omega | assumption) only [Sum.elim_inr, qai, qaj, qak, qaf]
      simp only [bn_id]
      exact this
    · have hop : ¬ (r.op = 1 ∨ r.op = 2 ∨ r.op = 3) := by omega
      rw [if_neg hop] at h1
      have := s12_mark p r hr hn A k hks h0 (hkd k (by rw [hks]; simp)) (A.length + 1) _ S' h1 (by omega) hk'
      (repeat' first | (with_reducible first | apply Tot.of (qaa rfl) | apply Tot.of (qag rfl) | apply Tot.of (qa0 rfl) | apply Tot.of (qax rfl) | apply Tot.of (qac rfl) | apply Tot.of (st_bnsum rfl) | apply Tot.of (qay rfl) | apply Tot.of (st_bnit rfl) | apply Tot.bql (b := false) | apply Tot.iff) | ((conv => arg 2; arg 1; simp (disch := first | omega | assumption) only [qae, qao, ofCellsS, Nat.zero_add, Nat.add_zero, qai, qaj, qak, qaf, qaz, List.length_map, hld]); (with_reducible first | apply Tot.of (qaa rfl) | (apply Tot.lss_f; omega) | (apply Tot.eql_f; omega))))
      conv => arg 2; simp (disch := first | omega | assumption) only [Sum.elim_inr, qai, qaj, qak, qaf]
      simp only [bn_id]
      exact this
  rw [Int.natCast_zero] at key
  unfold f12
  (repeat' first | (with_reducible first | apply Tot.of (qa3 rfl) | apply Tot.of (st_it rfl)) | ((conv => arg 2; arg 1; simp (disch := first | omega | assumption) only [qam, qaz, List.length_map, rx_box, r22, g1]); (with_reducible first | apply Tot.of (qaa rfl))))
  conv => arg 2; simp (disch := first | omega | assumption) only [qaf]
  exact key
open Classical in
/-- is a path one of an expression? -/
noncomputable def isOf (p : List Who) (r : P.Rx) : Bool := decide (Rx.sem p r 0 p.length)
theorem s5 (p : List Who) (hp : ∀ w, w ∈ p → WhoOk w) (hn : p.length ≤ 900) (r : P.Rx) (hr : r.Ok) (A : St) :
    f5 mL (Run Tryz.prog rxA) (Dcall Tryz.prog rxA) (encRx r) (encL 2 (p.map encWho)) A = some (.ret (if r.check = 0 then .tup [.bool (isOf p r), .int .i64 0] else .tup [.bool false, .int .i64 r.check]), A) := by
  have hck := fun A => s11 r hr A
  have hpl : lenSlO (encL 2 (p.map encWho)) = some (.int .i64 (p.length : Nat)) := by simp
  unfold f5
  refine Tot.eq ?_
  by_cases h : r.check = 0
  · rw [if_pos h]
    rw [h] at hck
    obtain ⟨h1, h2, h3⟩ := check_0 h
    obtain ⟨_, hq, k, m, S, rfl, hm, his, hk, hkk⟩ := s12 p hp hn r hr h3 (A ++ [.cells [.int .i64 r.op, .str r.nm, encL 3 (r.ks.map encRx)]])
    have hi0 : 0 < p.length + 1 := by omega
    have hin : p.length < p.length + 1 := by omega
    have hx0 := fun q => ix_v (k := q) hi0 .i64
    rw [Int.natCast_zero] at hx0
    have hxn := fun q => ix_v (k := q) hin .i64
    have hl0 := ld_row hm hi0
    have hb := ld_bit hm hi0 hin
    have hkA := (keep_box p r hr hn A hkk).2
    have hval : m 0 p.length = isOf p r := by
      unfold isOf
      rw [Bool.eq_iff_iff, his 0 p.length hi0 hin]
      simp
    rw [hval] at hb
    have hkp : Kept A S ↔ True := iff_true_intro ⟨hkA.len, fun j hj => .inl (hkA.old j hj)⟩
    have htk : S.take A.length = A := by
      apply List.ext_getElem?
      intro j
      rcases Nat.lt_or_ge j A.length with hj | hj
      · rw [List.getElem?_take_of_lt hj, hkA.old j hj]
      · rw [List.getElem?_eq_none hj, List.getElem?_eq_none (by simp; omega)]
    (repeat' first | (with_reducible first | apply Tot.of (qax rfl) | apply Tot.of (qa3 rfl) | apply Tot.of (st_leave rfl) | apply Tot.bql (b := false) | apply Tot.iff) | ((conv => arg 2; arg 1; simp (disch := first | omega | assumption) only [Nat.add_zero, ofA3, qaf, qaz, ld_sh0, ldc0, List.length_map, rx_box, rx_fold, rx_canon, whos_canon, r11, hck, r12, hq, hx0, hxn, hl0, hb]); (with_reducible first | apply Tot.of (qaa rfl) | (apply Tot.neq_t; omega))))
    ((try conv => arg 2; simp (disch := first | omega | assumption) only [qah, qa1, qav, shut_tup, shutL_nil, shutL_cons, qad, qaf, qam, qat, canon_tup, canonL_nil, canonL_cons, qab, qal, hkp, htk]); refine Tot.ret ?_)
    rfl
  · rw [if_neg h]
    (repeat' first | (with_reducible first | apply Tot.of (qax rfl) | apply Tot.of (qa3 rfl) | apply Tot.of (st_leave rfl) | apply Tot.bql (b := true) | apply Tot.ift) | ((conv => arg 2; arg 1; simp (disch := first | omega | assumption) only [ofA3, qaf, ld_sh0, ldc0, rx_box, rx_fold, rx_canon, r11, hck]); (with_reducible first | apply Tot.of (qaa rfl) | (apply Tot.neq_f; omega))))
    ((try conv => arg 2; simp (disch := first | omega | assumption) only [qah, qa1, qav, shut_tup, shutL_nil, shutL_cons, qar, qad, qam, qat, canon_tup, canonL_nil, canonL_cons, qab, qal, List.take_left']); refine Tot.ret ?_)
    rfl
end Go.Vm.Rx
