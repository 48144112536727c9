/- RxS55, RxS56 in one text. -/
import Derived.Test.YtikjlgcbcljehaaGreatDoorRxM3
import Derived.Test.YtikjlgcbcljehaaGreatDoorRxS49
set_option linter.all false
/- The reference: is a device one of a node? A node's table without kids. -/
namespace Go.Vm.Rx
open Go Go.Proofs P
set_option linter.unusedVariables false
set_option linter.unusedSimpArgs false
set_option linter.unusedSectionVars false
set_option maxRecDepth 10000
set_option maxHeartbeats 4000000
theorem who_box (w : Who) (A : St) : boxO true (encWho w) A = some (.ref A.length 0, A ++ [.cells [.str w.nm, encL 1 (w.cl.map .str)]]) := rfl
theorem who_canon (w : Who) : (encWho w).canon = encWho w := (plainWho w).canon
theorem who_fold (w : Who) : D.agg [.str w.nm, encL 1 (w.cl.map .str)] = encWho w := rfl
theorem s32_loop (r : P.Rx) (w : Who) (hw : w.cl.length ≤ 100000000) (A : St) : ∀ (t : List Str) (i : Nat), w.cl.drop i = t →
    iterK (f32_s0 mL (Run Tryz.prog rxA) (Dcall Tryz.prog rxA) A) (Env.mk (sp [(2, .ref A.length 0), (0, .ref (A.length + 1) 0), (1, .int .i64 (i : Nat))] 26) []) (A ++ [.cells [.int .i64 r.op, .str r.nm, encL 3 (r.ks.map encRx)], .cells [.str w.nm, encL 1 (w.cl.map .str)]]) = some (.ret (.bool (decide (r.nm ∈ t))), A) := by
  intro t
  induction t with
  | nil =>
    intro i ht
    have h1 := drop_len ht
    refine Tot.eq (Tot.iter ?_)
    conv => arg 2; arg 1; unfold f32_s0
    (repeat' first | (with_reducible first | apply Tot.of (qag rfl) | apply Tot.of (qa0 rfl) | apply Tot.of (qax rfl) | apply Tot.of (qac rfl) | apply Tot.of (st_inr rfl) | apply Tot.of (qas rfl) | apply Tot.bql (b := false) | apply Tot.iff) | ((conv => arg 2; arg 1; simp (disch := first | omega | assumption) only [qah, Option.map_some, qav, qar, qad, qaq, qae, qao, ofCellsS, Nat.zero_add, qai, qaj, qak, qat, qab, qal, qaz, ld_sh, ldc0, ldcS, List.take_left', List.length_map]); (with_reducible first | apply Tot.of (qaa rfl) | (apply Tot.lss_f; omega))))
    ((try conv => arg 2; simp (disch := first | omega | assumption) only []); refine Tot.ret ?_)
    rfl
  | cons x t ih =>
    intro i ht
    have h1 := drop_lt ht
    have hx := idx_drop (f := D.str) ht 1 false .i64
    have := ih (i + 1) (drop_succ ht)
    rw [Int.natCast_add, Int.natCast_one] at this
    refine Tot.eq (Tot.iter ?_)
    conv => arg 2; arg 1; unfold f32_s0
    by_cases hq : x = r.nm
    · (repeat' first | (with_reducible first | apply Tot.of (qag rfl) | apply Tot.of (qa0 rfl) | apply Tot.of (qax rfl) | apply Tot.of (qac rfl) | apply Tot.of (qaw rfl) | apply Tot.of (st_inr rfl) | apply Tot.of (st_guard rfl) | apply Tot.of (st_bngs rfl) | apply Tot.of (qas rfl) | apply Tot.bql (b := true) | apply Tot.ift | (apply Tot.seql_t; first | assumption | with_reducible rfl)) | ((conv => arg 2; arg 1; simp (disch := first | omega | assumption) only [qah, Option.map_some, qav, qar, qad, qaq, qae, qau, qao, ofCellsS, Nat.zero_add, qai, qaj, qak, mp_some, qat, qab, qal, qaz, cell_str, ld_sh, ld_sh0, ldc0, ldcS, List.take_left', List.length_map, hx]); (with_reducible first | apply Tot.of (qaa rfl) | (apply Tot.lss_t; omega))))
      ((try conv => arg 2; simp (disch := first | omega | assumption) only []); refine Tot.ret ?_)
      simp [hq]
    · have e : decide (r.nm ∈ x :: t) = decide (r.nm ∈ t) := by
        have : ¬ r.nm = x := fun e => hq e.symm
        simp [this]
      rw [e]
      (repeat' first | (with_reducible first | apply Tot.of (qaa rfl) | apply Tot.of (qag rfl) | apply Tot.of (qax rfl) | apply Tot.of (qac rfl) | apply Tot.of (qaw rfl) | apply Tot.of (qay rfl) | apply Tot.of (st_guard rfl) | apply Tot.of (st_bngs rfl) | apply Tot.of (st_bngk rfl) | apply Tot.bql (b := true) | apply Tot.bql (b := false) | apply Tot.ift | apply Tot.iff | (apply Tot.seql_f; first | assumption | decide | exact List.cons_ne_nil _ _)) | ((conv => arg 2; arg 1; simp (disch := first | omega | assumption) only [qap, qan, Kept_refl, qae, qau, qao, ofCellsS, Nat.zero_add, qai, qaj, qak, mp_some, qaf, qaz, cell_str, ld_sh, ld_sh0, ldc0, ldcS, List.length_map, hx]); (with_reducible first | apply Tot.of (qaa rfl) | apply Tot.of (st_guard rfl) | (apply Tot.lss_t; omega))))
      (refine Tot.of_eq ?_; (conv => lhs; simp (disch := first | omega | assumption) only [qa1, shut_ref, List.map_nil, Nat.zero_add, List.length_append, List.length_cons, List.length_nil, qai, qaj, qak, Nat.reduceAdd, take_n2]); exact this)
theorem s32 (r : P.Rx) (hr : r.Ok) (hop : r.op = 1 ∨ r.op = 2 ∨ r.op = 3) (w : Who) (hw : WhoOk w) (A : St) : f32 mL (Run Tryz.prog rxA) (Dcall Tryz.prog rxA) (encRx r) (encWho w) A = some (.ret (.bool (leafC r.op r.nm w)), A) := by
  have hlo := s32_loop r w hw.2 A w.cl 0 rfl
  rw [Int.natCast_zero] at hlo
  unfold f32 leafC
  refine Tot.eq ?_
  rcases hop with o | o | o
  · rw [if_pos o]
    by_cases hq : w.nm = r.nm
    · (repeat' first | (with_reducible first | apply Tot.of (qax rfl) | apply Tot.of (st_leave rfl) | apply Tot.bql (b := true) | apply Tot.ift | (apply Tot.seql_t; first | assumption | with_reducible rfl)) | ((conv => arg 2; arg 1; simp (disch := first | omega | assumption) only [qae, qao, ofCellsS, Nat.zero_add, Nat.add_zero, List.length_append, List.length_cons, List.length_nil, qaf, app_one, app_nil', app_cons', ld_sh, ld_sh0, ldc0, ldcS, rx_box, who_box]); (with_reducible first | apply Tot.of (qaa rfl) | (apply Tot.eql_t; omega))))
      ((try conv => arg 2; simp (disch := first | omega | assumption) only [qah, qav, qar, qad, qat, qab, qal, List.take_left']); refine Tot.ret ?_)
      simp [hq]
    · (repeat' first | (with_reducible first | apply Tot.of (qax rfl) | apply Tot.of (st_leave rfl) | apply Tot.bql (b := true) | apply Tot.ift | (apply Tot.seql_f; first | assumption | decide | exact List.cons_ne_nil _ _)) | ((conv => arg 2; arg 1; simp (disch := first | omega | assumption) only [qae, qao, ofCellsS, Nat.zero_add, Nat.add_zero, List.length_append, List.length_cons, List.length_nil, qaf, app_one, app_nil', app_cons', ld_sh, ld_sh0, ldc0, ldcS, rx_box, who_box]); (with_reducible first | apply Tot.of (qaa rfl) | (apply Tot.eql_t; omega))))
      ((try conv => arg 2; simp (disch := first | omega | assumption) only [qah, qav, qar, qad, qat, qab, qal, List.take_left']); refine Tot.ret ?_)
      simp [hq]
  · have h1 : ¬ r.op = 1 := by omega
    rw [if_neg h1, if_pos o]
    (repeat' first | (with_reducible first | apply Tot.of (qax rfl) | apply Tot.of (st_it rfl) | apply Tot.bql (b := false) | apply Tot.iff) | ((conv => arg 2; arg 1; simp (disch := first | omega | assumption) only [qae, qao, Nat.zero_add, Nat.add_zero, List.length_append, List.length_cons, List.length_nil, qaf, app_one, app_nil', app_cons', ld_sh0, ldc0, rx_box, who_box]); (with_reducible first | apply Tot.of (qaa rfl) | (apply Tot.eql_f; omega))))
    (refine Tot.of_eq ?_; (conv => lhs; simp (disch := first | omega | assumption) only [qaf]); exact hlo)
  · have h1 : ¬ r.op = 1 := by omega
    have h2 : ¬ r.op = 2 := by omega
    rw [if_neg h1, if_neg h2]
    (repeat' first | (with_reducible first | apply Tot.of (qax rfl) | apply Tot.of (st_leave rfl) | apply Tot.bql (b := true) | apply Tot.bql (b := false) | apply Tot.ift | apply Tot.iff) | ((conv => arg 2; arg 1; simp (disch := first | omega | assumption) only [qae, qao, Nat.zero_add, Nat.add_zero, List.length_append, List.length_cons, List.length_nil, qaf, app_one, app_nil', app_cons', ld_sh0, ldc0, rx_box, who_box]); (with_reducible first | apply Tot.of (qaa rfl) | (apply Tot.eql_t; omega) | (apply Tot.eql_f; omega))))
    ((try conv => arg 2; simp (disch := first | omega | assumption) only [qah, qav, qar, qad, qat, qab, qal, List.take_left']); refine Tot.ret ?_)
    rfl
/-- a table of an expression, somewhere behind the store -/
def SpOut (p : List Who) (R : Nat → Nat → Prop) (S : St) (x : Res × St) : Prop := ∃ k m S', x = (.ret (tabD k (p.length + 1) (p.length + 1)), S') ∧ Tab S' k (p.length + 1) m ∧ Is (p.length + 1) m R ∧ S.length ≤ k ∧ KeepS S S'
def SpSpec (p : List Who) (r : P.Rx) : Prop := ∀ S, Tot (SpOut p (Rx.sem p r) S) (f14 mL (Run Tryz.prog rxA) (Dcall Tryz.prog rxA) (encRx r) (encL 2 (p.map encWho)) S)
theorem keepT_set {S T : St} {k N : Nat} {m : Mt} {i j : Nat} {v : Bool} (h : KeepS S T) (hi : i < N) (hk : S.length ≤ k) : KeepS S (wrM T k N m i j v) := h.pres (tb_wrp hi v) hk
/-- the table of a node without kids -/
theorem s14_leaf (A : St) (r : P.Rx) (hr : r.Ok) (hop : r.op = 1 ∨ r.op = 2 ∨ r.op = 3) (p : List Who) (hp : ∀ w, w ∈ p → WhoOk w) (hn : p.length ≤ 900) (ko : Nat) (hko : A.length < ko) :
    ∀ (t : List Who) (i : Nat) (S : St) (m : Mt), p.drop i = t → i + t.length = p.length → Tab S ko (p.length + 1) m → KeepS (A ++ [.cells [.int .i64 r.op, .str r.nm, encL 3 (r.ks.map encRx)]]) S → Is (p.length + 1) (leafM r.op r.nm t i m) (Rx.sem p r) →
    Tot (SpOut p (Rx.sem p r) A) (iterK (f14_s0 mL (Run Tryz.prog rxA) (Dcall Tryz.prog rxA) A) (Env.mk (sp [(1, encL 2 (p.map encWho)), (0, .ref A.length 0), (2, .int .i64 (p.length : Nat)), (0, tabD ko (p.length + 1) (p.length + 1)), (0, .int .i64 (i : Nat))] 157) []) S) := by
  intro t
  have hl := hr.len
  induction t with
  | nil =>
    intro i S m ht hil hm hk his
    have : i = p.length := by simpa using hil
    subst this
    refine Tot.iter ?_
    conv => arg 2; arg 1; unfold f14_s0
    (repeat' first | (with_reducible first | apply Tot.of (qag rfl) | apply Tot.of (qa0 rfl) | apply Tot.of (qac rfl) | apply Tot.of (st_inr rfl) | apply Tot.of (qas rfl) | apply Tot.bql (b := false) | apply Tot.iff) | ((conv => arg 2; arg 1; simp (disch := first | omega | assumption) only [Option.map_some, leave_keep, qaq, qai, qaj, qak]); (with_reducible first | apply Tot.of (qaa rfl) | (apply Tot.lss_f; omega))))
    ((try conv => arg 2; simp (disch := first | omega | assumption) only []); refine Tot.ret ?_)
    exact ⟨ko, m, S, rfl, hm, his, by omega, (keep_box p r hr hn A hk).2⟩
  | cons w t ih =>
    intro i S m ht hil hm hk his
    have hlt := drop_lt ht
    have hx := idx_drop (f := encWho) ht 2 true .i64
    have hw := hp w (drop_mem ht)
    have hi : i < p.length + 1 := by omega
    have hi1 : i + 1 < p.length + 1 := by omega
    have hld := fun gg m off => load_get (keep_box p r hr hn A hk).1 (gg := gg) (m := m) (off := off)
    have hxo := tabD_ix (k := ko) hi .i64
    have hix1 := fun q => ix_v (k := q) hi1 .i64
    rw [Int.natCast_add, Int.natCast_one] at hix1
    have hst := fun v => tb_sto hm hi hi1 v
    have hIs := fun A => s32 r hr hop w hw A
    have := ih (i + 1) _ _ (drop_succ ht) (by simp only [List.length_cons] at hil; omega) (tb_wr hm hi (leafC r.op r.nm w) (j := i + 1)) (keepT_set hk hi (by simp; omega)) his
    rw [Int.natCast_add, Int.natCast_one] at this
    refine Tot.iter ?_
    conv => arg 2; arg 1; unfold f14_s0
    (repeat' first | (with_reducible first | apply Tot.of (qaa rfl) | apply Tot.of (qag rfl) | apply Tot.of (qax rfl) | apply Tot.of (qac rfl) | apply Tot.of (st_bnelim rfl) | apply Tot.of (qaw rfl) | apply Tot.of (qa3 rfl) | apply Tot.of (qay rfl) | apply Tot.of (st_bngs rfl) | apply Tot.bql (b := true) | apply Tot.ift) | ((conv => arg 2; arg 1; simp (disch := first | omega | assumption) only [qap, qan, qau, qao, ofA2, ofA3, sameAd_refl, and_self, qai, qaj, qak, mp_some, qaf, hx, who_cell, who_fold, who_canon, hld, hxo, hix1, rx_fold, rx_canon, r32, hIs, hst]); (with_reducible first | apply Tot.of (qaa rfl) | apply Tot.of (st_guard rfl) | (apply Tot.lss_t; omega))))
    conv => arg 2; simp (disch := first | omega | assumption) only [qai, qaj, qak]
    exact this
end Go.Vm.Rx

/- The reference's table of an expression: kids in turn, kids as ways. -/
namespace Go.Vm.Rx
open Go Go.Proofs P
set_option linter.unusedVariables false
set_option linter.unusedSimpArgs false
set_option linter.unusedSectionVars false
set_option maxRecDepth 10000
set_option maxHeartbeats 4000000
section
variable (p : List Who) (r : P.Rx) (hr : r.Ok) (hn : p.length ≤ 900) (A : St)
include hr hn
theorem s14_seq (hkd : ∀ k, k ∈ r.ks → SpSpec p k) : ∀ (t pre : List P.Rx) (ko : Nat) (m : Mt) (S : St), pre ++ t = r.ks → Tab S ko (p.length + 1) m → Is (p.length + 1) m (Rx.semSeq p pre) → A.length < ko → KeepS (A ++ [.cells [.int .i64 r.op, .str r.nm, encL 3 (r.ks.map encRx)]]) S →
    Tot (SpOut p (Rx.semSeq p r.ks) A) (iterK (f14_s1 mL (Run Tryz.prog rxA) (Dcall Tryz.prog rxA) A) (Env.mk (sp [(1, encL 2 (p.map encWho)), (0, .ref A.length 0), (3, tabD ko (p.length + 1) (p.length + 1)), (2, .int .i64 (pre.length : Nat))] 155) []) S) := by
  intro t
  have hl := hr.len
  induction t with
  | nil =>
    intro pre ko m S hpt hm his hko hk
    rw [List.append_nil] at hpt
    subst hpt
    have hld := fun gg m off => load_get (keep_box p r hr hn A hk).1 (gg := gg) (m := m) (off := off)
    refine Tot.iter ?_
    conv => arg 2; arg 1; unfold f14_s1
    (repeat' first | (with_reducible first | apply Tot.of (qag rfl) | apply Tot.of (qa0 rfl) | apply Tot.of (qax rfl) | apply Tot.of (qac rfl) | apply Tot.of (st_inr rfl) | apply Tot.of (qas rfl) | apply Tot.bql (b := false) | apply Tot.iff) | ((conv => arg 2; arg 1; simp (disch := first | omega | assumption) only [Option.map_some, leave_keep, qaq, qae, qao, ofCellsS, Nat.zero_add, qai, qaj, qak, qaz, List.length_map, hld]); (with_reducible first | apply Tot.of (qaa rfl) | (apply Tot.lss_f; omega))))
    ((try conv => arg 2; simp (disch := first | omega | assumption) only []); refine Tot.ret ?_)
    exact ⟨ko, m, S, rfl, hm, his, by omega, (keep_box p r hr hn A hk).2⟩
  | cons k t ih =>
    intro pre ko m S hpt hm his hko hk
    have hmem : k ∈ r.ks := by rw [← hpt]; simp
    have hpl : pre.length < r.ks.length := by rw [← hpt]; simp
    have hx := idx_drop (f := encRx) (l := r.ks) (i := pre.length) (x := k) (t := t) (by rw [← hpt]; simp) 3 true .i64
    have hld := fun gg m off => load_get (keep_box p r hr hn A hk).1 (gg := gg) (m := m) (off := off)
    obtain ⟨_, hq, k', m', S2, rfl, hm', his', hk', hkk⟩ := hkd k hmem S
    obtain ⟨S3, g1, g2, g3⟩ := NewT.get (s33 S2 ko k' p.length m m' (by omega) (hm.keeps hkk) hm')
    have his3 := (chain_is his his' (fun i j hi h => seq_le p pre i j hi h)).congr fun i j => semSeq_snoc p pre k i j
    have hk3 := (hk.trans hkk).trans g3
    have hln := (hk.trans hkk).len
    simp only [List.length_append, List.length_cons, List.length_nil] at hln
    have := ih (pre ++ [k]) S2.length _ S3 (by simp [← hpt]) g2 his3 (by omega) hk3
    have e : ((pre ++ [k]).length : Int) = (pre.length : Int) + 1 := by simp
    rw [e] at this
    have hc1 := tabD_canon (k := ko) (N := p.length + 1) (by omega)
    have hc2 := tabD_canon (k := k') (N := p.length + 1) (by omega)
    refine Tot.iter ?_
    conv => arg 2; arg 1; unfold f14_s1
    (repeat' first | (with_reducible first | apply Tot.of (qaa rfl) | apply Tot.of (qag rfl) | apply Tot.of (qax rfl) | apply Tot.of (qac rfl) | apply Tot.of (st_bnelim rfl) | apply Tot.of (qa3 rfl) | apply Tot.of (qay rfl) | apply Tot.bql (b := true) | apply Tot.ift) | ((conv => arg 2; arg 1; simp (disch := first | omega | assumption) only [qap, qan, qae, qau, qao, ofCellsS, Nat.zero_add, ofA3, qai, qaj, qak, mp_some, qaf, qaz, List.length_map, hx, rx_cell, rx_fold, rx_canon, whos_canon, hld, r14, hq, r33, hc1, hc2, g1]); (with_reducible first | apply Tot.of (qaa rfl) | (apply Tot.lss_t; omega))))
    conv => arg 2; simp (disch := first | omega | assumption) only [qai, qaj, qak]
    exact this
theorem s14_alt (hkd : ∀ k, k ∈ r.ks → SpSpec p k) : ∀ (t pre : List P.Rx) (ko : Nat) (m : Mt) (S : St), pre ++ t = r.ks → Tab S ko (p.length + 1) m → Is (p.length + 1) m (Rx.semAlt p pre) → A.length < ko → KeepS (A ++ [.cells [.int .i64 r.op, .str r.nm, encL 3 (r.ks.map encRx)]]) S →
    Tot (SpOut p (Rx.semAlt p r.ks) A) (iterK (f14_s3 mL (Run Tryz.prog rxA) (Dcall Tryz.prog rxA) A) (Env.mk (sp [(1, encL 2 (p.map encWho)), (0, .ref A.length 0), (3, tabD ko (p.length + 1) (p.length + 1)), (3, .int .i64 (pre.length : Nat))] 154) []) S) := by
  intro t
  have hl := hr.len
  induction t with
  | nil =>
    intro pre ko m S hpt hm his hko hk
    rw [List.append_nil] at hpt
    subst hpt
    have hld := fun gg m off => load_get (keep_box p r hr hn A hk).1 (gg := gg) (m := m) (off := off)
    refine Tot.iter ?_
    conv => arg 2; arg 1; unfold f14_s3
    (repeat' first | (with_reducible first | apply Tot.of (qag rfl) | apply Tot.of (qa0 rfl) | apply Tot.of (qax rfl) | apply Tot.of (qac rfl) | apply Tot.of (st_inr rfl) | apply Tot.of (qas rfl) | apply Tot.bql (b := false) | apply Tot.iff) | ((conv => arg 2; arg 1; simp (disch := first | omega | assumption) only [Option.map_some, leave_keep, qaq, qae, qao, ofCellsS, Nat.zero_add, qai, qaj, qak, qaz, List.length_map, hld]); (with_reducible first | apply Tot.of (qaa rfl) | (apply Tot.lss_f; omega))))
    ((try conv => arg 2; simp (disch := first | omega | assumption) only []); refine Tot.ret ?_)
    exact ⟨ko, m, S, rfl, hm, his, by omega, (keep_box p r hr hn A hk).2⟩
  | cons k t ih =>
    intro pre ko m S hpt hm his hko hk
    have hmem : k ∈ r.ks := by rw [← hpt]; simp
    have hpl : pre.length < r.ks.length := by rw [← hpt]; simp
    have hx := idx_drop (f := encRx) (l := r.ks) (i := pre.length) (x := k) (t := t) (by rw [← hpt]; simp) 3 true .i64
    have hld := fun gg m off => load_get (keep_box p r hr hn A hk).1 (gg := gg) (m := m) (off := off)
    obtain ⟨_, hq, k', m', S2, rfl, hm', his', hk', hkk⟩ := hkd k hmem S
    obtain ⟨S3, g1, g2, g3⟩ := NewT.get (s34 S2 ko k' p.length m m' (by omega) (hm.keeps hkk) hm')
    have his3 := (or_is his his').congr fun i j => semAlt_snoc p pre k i j
    have hk3 := (hk.trans hkk).trans g3
    have hln := (hk.trans hkk).len
    simp only [List.length_append, List.length_cons, List.length_nil] at hln
    have := ih (pre ++ [k]) S2.length _ S3 (by simp [← hpt]) g2 his3 (by omega) hk3
    have e : ((pre ++ [k]).length : Int) = (pre.length : Int) + 1 := by simp
    rw [e] at this
    have hc1 := tabD_canon (k := ko) (N := p.length + 1) (by omega)
    have hc2 := tabD_canon (k := k') (N := p.length + 1) (by omega)
    refine Tot.iter ?_
    conv => arg 2; arg 1; unfold f14_s3
    (repeat' first | (with_reducible first | apply Tot.of (qaa rfl) | apply Tot.of (qag rfl) | apply Tot.of (qax rfl) | apply Tot.of (qac rfl) | apply Tot.of (st_bnelim rfl) | apply Tot.of (qa3 rfl) | apply Tot.of (qay rfl) | apply Tot.bql (b := true) | apply Tot.ift) | ((conv => arg 2; arg 1; simp (disch := first | omega | assumption) only [qap, qan, qae, qau, qao, ofCellsS, Nat.zero_add, ofA3, qai, qaj, qak, mp_some, qaf, qaz, List.length_map, hx, rx_cell, rx_fold, rx_canon, whos_canon, hld, r14, hq, r34, hc1, hc2, g1]); (with_reducible first | apply Tot.of (qaa rfl) | (apply Tot.lss_t; omega))))
    conv => arg 2; simp (disch := first | omega | assumption) only [qai, qaj, qak]
    exact this
/-- every place to itself, then what follows -/
theorem s14_diag (Q : Res × St → Prop) (B : St) (ko : Nat) (hB : B.length ≤ ko) (N : Nat) (hN : N = p.length + 1) : ∀ (f i : Nat) (S : St) (m : Mt), i + f = N → Tab S ko N m → KeepS B S →
    (∀ S', Tab S' ko N (diag f i m) → KeepS B S' → Tot Q (iterK (f14_s1 mL (Run Tryz.prog rxA) (Dcall Tryz.prog rxA) A) (Env.mk (sp [(1, encL 2 (p.map encWho)), (0, .ref A.length 0), (3, tabD ko N N), (2, .int .i64 0)] 155) []) S')) →
    Tot Q (iterK (f14_s2 mL (Run Tryz.prog rxA) (Dcall Tryz.prog rxA) A) (Env.mk (sp [(1, encL 2 (p.map encWho)), (0, .ref A.length 0), (2, .int .i64 (p.length : Nat)), (0, tabD ko N N), (1, .int .i64 (i : Nat))] 156) []) S) := by
  intro f
  induction f with
  | zero =>
    intro i S m hi hm hk hQ
    have h1 : i = p.length + 1 := by omega
    have := hQ S hm hk
    refine Tot.iter ?_
    conv => arg 2; arg 1; unfold f14_s2
    (repeat' first | (with_reducible first | apply Tot.of (qag rfl) | apply Tot.of (qa0 rfl) | apply Tot.of (qac rfl) | apply Tot.of (st_bnit rfl) | apply Tot.bql (b := false) | apply Tot.iff) | ((conv => arg 2; arg 1; simp (disch := first | omega | assumption) only [qai, qaj, qak]); (with_reducible first | (apply Tot.leq_f; omega))))
    conv => arg 2; simp (disch := first | omega | assumption) only [Sum.elim_inr, qai, qaj, qak, qaf]
    simp only [bn_id]
    exact this
  | succ f ih =>
    intro i S m hi hm hk hQ
    have hlt : i < N := by omega
    have hxo := tabD_ix (k := ko) hlt .i64
    have hixi := fun q => ix_v (k := q) hlt .i64
    have hst := tb_sto hm hlt hlt true
    have := ih (i + 1) _ _ (by omega) (tb_wr hm hlt true (j := i)) (keepT_set hk hlt hB) hQ
    rw [Int.natCast_add, Int.natCast_one] at this
    refine Tot.iter ?_
    conv => arg 2; arg 1; unfold f14_s2
    (repeat' first | (with_reducible first | apply Tot.of (qaa rfl) | apply Tot.of (qag rfl) | apply Tot.of (qax rfl) | apply Tot.of (qac rfl) | apply Tot.of (qay rfl) | apply Tot.bql (b := true) | apply Tot.ift) | ((conv => arg 2; arg 1; simp (disch := first | omega | assumption) only [qap, qan, qau, qao, qai, qaj, qak, qaf, hxo, hixi, hst]); (with_reducible first | apply Tot.of (qaa rfl) | (apply Tot.leq_t; omega))))
    conv => arg 2; simp (disch := first | omega | assumption) only [qai, qaj, qak]
    exact this
end
end Go.Vm.Rx
