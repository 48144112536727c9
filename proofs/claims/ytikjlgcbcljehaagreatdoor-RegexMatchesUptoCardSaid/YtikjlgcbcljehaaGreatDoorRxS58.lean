/- RxS57, RxS58 in one text. -/
import Derived.Test.YtikjlgcbcljehaaGreatDoorRxS56
import Derived.Test.YtikjlgcbcljehaaGreatDoorRxS49
import Derived.Test.YtikjlgcbcljehaaGreatDoorRxS52
set_option linter.all false
/- The reference's table of an expression: with a mark; the whole; Match. -/
namespace Go.Vm.Rx
open Go Go.Proofs P
set_option linter.unusedVariables false
set_option linter.unusedSimpArgs false
set_option linter.unusedSectionVars false
set_option maxRecDepth 10000
set_option maxHeartbeats 4000000
section
variable (n N : Nat) (hNn : N = n + 1) (hN : N ≤ 1000) (bx ko : Nat)
include hNn hN
theorem s14_wj (k i : Nat) (hk : k < N) (hi : i < N) : ∀ (f j : Nat) (S : St) (m : Mt), j + f = N → Tab S ko N m →
    Tot (InlT (Env.mk (sp [(2, .ref bx 0), (2, .int .i64 (n : Nat)), (0, tabD ko N N), (4, .int .i64 (k : Nat)), (0, .int .i64 ((i : Int) + 1))] 152) []) S ko N (waJ k i f j m))
      (iterK (f14_s4 mL (Run Tryz.prog rxA) (Dcall Tryz.prog rxA)) (Env.mk (sp [(2, .ref bx 0), (2, .int .i64 (n : Nat)), (0, tabD ko N N), (4, .int .i64 (k : Nat)), (0, .int .i64 (i : Nat)), (0, .int .i64 (j : Nat))] 151) []) S) := by
  intro f
  induction f with
  | zero =>
    intro j S m hj hm
    refine Tot.iter ?_
    conv => arg 2; arg 1; unfold f14_s4
    (repeat' first | (with_reducible first | apply Tot.of (qaa rfl) | apply Tot.of (qag rfl) | apply Tot.of (qa0 rfl) | apply Tot.of (qac rfl) | apply Tot.of (st_inr rfl) | apply Tot.bql (b := false) | apply Tot.iff) | ((conv => arg 2; arg 1; simp (disch := first | omega | assumption) only [qap, qan, qai, qaj, qak, qaf]); (with_reducible first | apply Tot.of (qaa rfl) | (apply Tot.leq_f; omega))))
    ((try conv => arg 2; simp (disch := first | omega | assumption) only [qai, qaj, qak]); refine Tot.ret ?_)
    exact ⟨S, rfl, hm, Pres.refl _ _ _⟩
  | succ f ih =>
    intro j S m hj hm
    have hlt : j < N := by omega
    have hxi := tabD_ix (k := ko) hi .i64
    have hxk := tabD_ix (k := ko) hk .i64
    have hixk := fun q => ix_v (k := q) hk .i64
    have hixj := fun q => ix_v (k := q) hlt .i64
    have b1 := tb_bit hm hi hlt
    have b2 := tb_bit hm hi hk
    have b3 := tb_bit hm hk hlt
    have hst := fun v => tb_sto hm hi hlt v
    have step := fun v => ih (j + 1) (wrM S ko N m i j v) _ (by omega) (tb_wr hm hi v (j := j))
    have fin := fun v (hv : v = (m i j || (m i k && m k j))) => (step v).mono fun x h => InlT.of h (tb_wrp hi v) (show waJ k i f (j + 1) (updM m i j v) = waJ k i (f + 1) j m by rw [hv]; rfl)
    simp only [Int.natCast_add, Int.natCast_one] at fin
    refine Tot.iter ?_
    conv => arg 2; arg 1; unfold f14_s4
    by_cases h1 : m i j = true
    · rw [h1] at b1
      (repeat' first | (with_reducible first | apply Tot.of (qaa rfl) | apply Tot.of (qag rfl) | apply Tot.of (qax rfl) | apply Tot.of (qac rfl) | apply Tot.of (qaw rfl) | apply Tot.of (qay rfl) | apply Tot.of (st_guard rfl) | apply Tot.of (st_bngs rfl) | apply Tot.gbl (b := true) | apply Tot.gbn | apply Tot.bql (b := true) | apply Tot.ift | apply Tot.iff | apply Tot.iftf) | ((conv => arg 2; arg 1; simp (disch := first | omega | assumption) only [qa2, qap, qan, qau, qao, qai, qaj, qak, qaf, hxi, hixj, b1, hst]); (with_reducible first | apply Tot.of (qaa rfl) | (apply Tot.leq_t; omega))))
      conv => arg 2; simp (disch := first | omega | assumption) only [qai, qaj, qak]
      exact fin true (by simp [h1])
    · simp only [Bool.not_eq_true] at h1
      rw [h1] at b1
      by_cases h2 : m i k = true
      · rw [h2] at b2
        (repeat' first | (with_reducible first | apply Tot.of (qaa rfl) | apply Tot.of (qag rfl) | apply Tot.of (qax rfl) | apply Tot.of (qac rfl) | apply Tot.of (qaw rfl) | apply Tot.of (qay rfl) | apply Tot.of (st_guard rfl) | apply Tot.of (st_bngs rfl) | apply Tot.gbl (b := true) | apply Tot.gbl (b := false) | apply Tot.bql (b := true) | apply Tot.bql (b := false) | apply Tot.ift | apply Tot.iftt | apply Tot.ifff) | ((conv => arg 2; arg 1; simp (disch := first | omega | assumption) only [qa2, ifb_false, qap, qan, qau, qao, qai, qaj, qak, qaf, hxi, hxk, hixk, hixj, b1, b2, b3, hst]); (with_reducible first | apply Tot.of (qaa rfl) | (apply Tot.leq_t; omega))))
        conv => arg 2; simp (disch := first | omega | assumption) only [qai, qaj, qak]
        exact fin (m k j) (by simp [h1, h2])
      · simp only [Bool.not_eq_true] at h2
        rw [h2] at b2
        (repeat' first | (with_reducible first | apply Tot.of (qaa rfl) | apply Tot.of (qag rfl) | apply Tot.of (qax rfl) | apply Tot.of (qac rfl) | apply Tot.of (qaw rfl) | apply Tot.of (qay rfl) | apply Tot.of (st_guard rfl) | apply Tot.of (st_bngs rfl) | apply Tot.gbl (b := false) | apply Tot.bql (b := true) | apply Tot.bql (b := false) | apply Tot.ift | apply Tot.ifft | apply Tot.ifff) | ((conv => arg 2; arg 1; simp (disch := first | omega | assumption) only [ifb_false, qap, qan, qau, qao, qai, qaj, qak, qaf, hxi, hixk, hixj, b1, b2, hst]); (with_reducible first | apply Tot.of (qaa rfl) | (apply Tot.leq_t; omega))))
        conv => arg 2; simp (disch := first | omega | assumption) only [qai, qaj, qak]
        exact fin false (by simp [h1, h2])
theorem s14_wi (k : Nat) (hk : k < N) : ∀ (f i : Nat) (S : St) (m : Mt), i + f = N → Tab S ko N m →
    Tot (InlT (Env.mk (sp [(2, .ref bx 0), (2, .int .i64 (n : Nat)), (0, tabD ko N N), (4, .int .i64 ((k : Int) + 1))] 153) []) S ko N (waI N k f i m))
      (iterK (f14_s5 mL (Run Tryz.prog rxA) (Dcall Tryz.prog rxA)) (Env.mk (sp [(2, .ref bx 0), (2, .int .i64 (n : Nat)), (0, tabD ko N N), (4, .int .i64 (k : Nat)), (0, .int .i64 (i : Nat))] 152) []) S) := by
  intro f
  induction f with
  | zero =>
    intro i S m hi hm
    refine Tot.iter ?_
    conv => arg 2; arg 1; unfold f14_s5
    (repeat' first | (with_reducible first | apply Tot.of (qaa rfl) | apply Tot.of (qag rfl) | apply Tot.of (qa0 rfl) | apply Tot.of (qac rfl) | apply Tot.of (st_inr rfl) | apply Tot.bql (b := false) | apply Tot.iff) | ((conv => arg 2; arg 1; simp (disch := first | omega | assumption) only [qap, qan, qai, qaj, qak, qaf]); (with_reducible first | apply Tot.of (qaa rfl) | (apply Tot.leq_f; omega))))
    ((try conv => arg 2; simp (disch := first | omega | assumption) only [qai, qaj, qak]); refine Tot.ret ?_)
    exact ⟨S, rfl, hm, Pres.refl _ _ _⟩
  | succ f ih =>
    intro i S m hi hm
    have hlt : i < N := by omega
    obtain ⟨_, h1, S', rfl, h2, h3⟩ := s14_wj n N hNn hN bx ko k i hk hlt N 0 S m (by omega) hm
    rw [Int.natCast_zero] at h1
    have := ih (i + 1) S' _ (by omega) h2
    rw [Int.natCast_add, Int.natCast_one] at this
    refine Tot.iter ?_
    conv => arg 2; arg 1; unfold f14_s5
    (repeat' first | (with_reducible first | apply Tot.of (qag rfl) | apply Tot.of (qac rfl) | apply Tot.of (qay rfl) | apply Tot.of (st_bnit rfl) | apply Tot.bql (b := true) | apply Tot.ift) | ((conv => arg 2; arg 1; simp (disch := first | omega | assumption) only [qai, qaj, qak, qaf, h1]); (with_reducible first | apply Tot.of (qaa rfl) | (apply Tot.leq_t; omega))))
    conv => arg 2; simp (disch := first | omega | assumption) only []
    exact this.mono fun x h => InlT.of h h3 rfl
theorem s14_wk : ∀ (f k : Nat) (S : St) (m : Mt), k + f = N → Tab S ko N m →
    Tot (InlT (Env.mk (sp [(2, .ref bx 0), (2, .int .i64 (n : Nat)), (0, tabD ko N N)] 158) []) S ko N (waK N f k m))
      (iterK (f14_s6 mL (Run Tryz.prog rxA) (Dcall Tryz.prog rxA)) (Env.mk (sp [(2, .ref bx 0), (2, .int .i64 (n : Nat)), (0, tabD ko N N), (4, .int .i64 (k : Nat))] 153) []) S) := by
  intro f
  induction f with
  | zero =>
    intro k S m hk hm
    refine Tot.iter ?_
    conv => arg 2; arg 1; unfold f14_s6
    (repeat' first | (with_reducible first | apply Tot.of (qaa rfl) | apply Tot.of (qag rfl) | apply Tot.of (qac rfl) | apply Tot.of (st_inr rfl) | apply Tot.bql (b := false) | apply Tot.iff) | ((conv => arg 2; arg 1; simp (disch := first | omega | assumption) only [qai, qaj, qak]); (with_reducible first | (apply Tot.leq_f; omega))))
    ((try conv => arg 2; simp (disch := first | omega | assumption) only [qai, qaj, qak]); refine Tot.ret ?_)
    exact ⟨S, rfl, hm, Pres.refl _ _ _⟩
  | succ f ih =>
    intro k S m hk hm
    have hlt : k < N := by omega
    obtain ⟨_, h1, S', rfl, h2, h3⟩ := s14_wi n N hNn hN bx ko k hlt N 0 S m (by omega) hm
    rw [Int.natCast_zero] at h1
    have := ih (k + 1) S' _ (by omega) h2
    rw [Int.natCast_add, Int.natCast_one] at this
    refine Tot.iter ?_
    conv => arg 2; arg 1; unfold f14_s6
    (repeat' first | (with_reducible first | apply Tot.of (qag rfl) | apply Tot.of (qac rfl) | apply Tot.of (qay rfl) | apply Tot.of (st_bnit rfl) | apply Tot.bql (b := true) | apply Tot.ift) | ((conv => arg 2; arg 1; simp (disch := first | omega | assumption) only [qai, qaj, qak, qaf, h1]); (with_reducible first | apply Tot.of (qaa rfl) | (apply Tot.leq_t; omega))))
    conv => arg 2; simp (disch := first | omega | assumption) only []
    exact this.mono fun x h => InlT.of h h3 rfl
end
section
variable (p : List Who) (r : P.Rx) (hr : r.Ok) (hn : p.length ≤ 900) (A : St)
include hr hn
theorem s14_end7 (h7 : r.op = 7) (R : Nat → Nat → Prop) (ko : Nat) (m : Mt) (i : Nat) (S : St) (hm : Tab S ko (p.length + 1) m) (his : Is (p.length + 1) m R) (hko : A.length < ko) (hk : KeepS (A ++ [.cells [.int .i64 r.op, .str r.nm, encL 3 (r.ks.map encRx)]]) S) :
    Tot (SpOut p R A) (iterK (f14_s7 mL (Run Tryz.prog rxA) (Dcall Tryz.prog rxA) A) (Env.mk (sp [(2, .ref A.length 0), (2, .int .i64 (p.length : Nat)), (0, tabD ko (p.length + 1) (p.length + 1)), (7, .int .i64 (i : Nat))] 150) []) S) := by
  have hld := fun gg m off => load_get (keep_box p r hr hn A hk).1 (gg := gg) (m := m) (off := off)
  refine Tot.iter ?_
  conv => arg 2; arg 1; unfold f14_s7
  (repeat' first | (with_reducible first | apply Tot.of (qaa rfl) | apply Tot.of (qag rfl) | apply Tot.of (qa0 rfl) | apply Tot.of (qax rfl) | apply Tot.of (qac rfl) | apply Tot.of (st_inr rfl) | apply Tot.of (qas rfl) | apply Tot.gbl (b := false) | apply Tot.bql (b := false) | apply Tot.iff | apply Tot.ifft) | ((conv => arg 2; arg 1; simp (disch := first | omega | assumption) only [ifb_false, Option.map_some, leave_keep, qaq, qae, qao, Nat.add_zero, qai, qaj, qak, qaf, hld]); (with_reducible first | apply Tot.of (qaa rfl) | apply Tot.bql (b := false) | (apply Tot.neq_t; omega))))
  ((try conv => arg 2; simp (disch := first | omega | assumption) only []); refine Tot.ret ?_)
  exact ⟨ko, m, S, rfl, hm, his, by omega, (keep_box p r hr hn A hk).2⟩
theorem s14_endD (h7 : ¬ r.op = 7) (R : Nat → Nat → Prop) (ko : Nat) (hko : A.length < ko) : ∀ (f i : Nat) (S : St) (m : Mt), i + f = p.length + 1 → Tab S ko (p.length + 1) m → KeepS (A ++ [.cells [.int .i64 r.op, .str r.nm, encL 3 (r.ks.map encRx)]]) S → Is (p.length + 1) (diag f i m) R →
    Tot (SpOut p R A) (iterK (f14_s7 mL (Run Tryz.prog rxA) (Dcall Tryz.prog rxA) A) (Env.mk (sp [(2, .ref A.length 0), (2, .int .i64 (p.length : Nat)), (0, tabD ko (p.length + 1) (p.length + 1)), (7, .int .i64 (i : Nat))] 150) []) S) := by
  intro f
  induction f with
  | zero =>
    intro i S m hi hm hk his
    have hld := fun gg m off => load_get (keep_box p r hr hn A hk).1 (gg := gg) (m := m) (off := off)
    refine Tot.iter ?_
    conv => arg 2; arg 1; unfold f14_s7
    (repeat' first | (with_reducible first | apply Tot.of (qaa rfl) | apply Tot.of (qag rfl) | apply Tot.of (qa0 rfl) | apply Tot.of (qax rfl) | apply Tot.of (qac rfl) | apply Tot.of (st_inr rfl) | apply Tot.of (qas rfl) | apply Tot.gbl (b := true) | apply Tot.bql (b := true) | apply Tot.iff | apply Tot.iftt) | ((conv => arg 2; arg 1; simp (disch := first | omega | assumption) only [qa2, Option.map_some, leave_keep, qaq, qae, qao, Nat.add_zero, qai, qaj, qak, qaf, hld]); (with_reducible first | apply Tot.of (qaa rfl) | apply Tot.bql (b := false) | (apply Tot.leq_f; omega) | (apply Tot.neq_f; omega))))
    ((try conv => arg 2; simp (disch := first | omega | assumption) only []); refine Tot.ret ?_)
    exact ⟨ko, m, S, rfl, hm, his, by omega, (keep_box p r hr hn A hk).2⟩
  | succ f ih =>
    intro i S m hi hm hk his
    have hlt : i < p.length + 1 := by omega
    have hld := fun gg m off => load_get (keep_box p r hr hn A hk).1 (gg := gg) (m := m) (off := off)
    have hxo := tabD_ix (k := ko) hlt .i64
    have hixi := fun q => ix_v (k := q) hlt .i64
    have hst := tb_sto hm hlt hlt true
    have := ih (i + 1) _ _ (by omega) (tb_wr hm hlt true (j := i)) (keepT_set hk hlt (by simp; omega)) his
    rw [Int.natCast_add, Int.natCast_one] at this
    refine Tot.iter ?_
    conv => arg 2; arg 1; unfold f14_s7
    (repeat' first | (with_reducible first | apply Tot.of (qaa rfl) | apply Tot.of (qag rfl) | apply Tot.of (qax rfl) | apply Tot.of (qac rfl) | apply Tot.of (qay rfl) | apply Tot.gbl (b := true) | apply Tot.bql (b := true) | apply Tot.ift | apply Tot.iftt) | ((conv => arg 2; arg 1; simp (disch := first | omega | assumption) only [qa2, qap, qan, qae, qau, qao, Nat.add_zero, qai, qaj, qak, qaf, hld, hxo, hixi, hst]); (with_reducible first | apply Tot.of (qaa rfl) | apply Tot.bql (b := true) | (apply Tot.leq_t; omega) | (apply Tot.neq_f; omega))))
    conv => arg 2; simp (disch := first | omega | assumption) only [qai, qaj, qak]
    exact this
end
theorem s14 (p : List Who) (hp : ∀ w, w ∈ p → WhoOk w) (hn : p.length ≤ 900) : ∀ (r : P.Rx) (hr : r.Ok) (hrt : r.right = true), SpSpec p r := by
  refine Rx.ind fun r ih hr hrt A => ?_
  have hrt0 := hrt
  rw [Rx.right_eq, Bool.and_eq_true] at hrt
  obtain ⟨hno, hrs⟩ := hrt
  have hkd : ∀ k, k ∈ r.ks → SpSpec p k := fun k hk => ih k hk (hr.kid hk) (rights_mem hrs k hk)
  have hl := hr.len
  have hpl : lenSlO (encL 2 (p.map encWho)) = some (.int .i64 (p.length : Nat)) := by simp
  obtain ⟨S1, g1, g2, g3⟩ := NewT.get (s31 (A ++ [.cells [.int .i64 r.op, .str r.nm, encL 3 (r.ks.map encRx)]]) p.length (by omega))
  have hln : (A ++ [Slot.cells [.int .i64 r.op, .str r.nm, encL 3 (r.ks.map encRx)]]).length = A.length + 1 := by simp
  rw [hln] at g1 g2
  have hld := fun gg m off => load_get (keep_box p r hr hn A g3).1 (gg := gg) (m := m) (off := off)
  unfold f14
  rcases nodeOk_cases hno with ⟨h0, hnm, hks⟩ | ⟨h0, hnm, hks⟩ | ⟨h0, hnm, _, _⟩ | ⟨h0, hnm, _, _⟩ | ⟨h0, hnm, k, hks⟩
  · have hop : r.op = 1 ∨ r.op = 2 ∨ r.op = 3 := by omega
    have := s14_leaf A r hr hop p hp hn (A.length + 1) (by omega) p 0 S1 _ rfl (by omega) g2 g3 (leaf_is p r hop)
    rw [Int.natCast_zero] at this
    rcases h0 with h0 | h0
    · (repeat' first | (with_reducible first | apply Tot.of (qaa rfl) | apply Tot.of (qax rfl) | apply Tot.of (qac rfl) | apply Tot.of (qa3 rfl) | apply Tot.of (qay rfl) | apply Tot.of (st_it rfl) | apply Tot.bql (b := true) | apply Tot.ift) | ((conv => arg 2; arg 1; simp (disch := first | omega | assumption) only [qae, qao, Nat.add_zero, qai, qaj, qak, qaf, qam, rx_box, hpl, r31, g1, hld]); (with_reducible first | apply Tot.of (qaa rfl) | apply Tot.bql (b := true) | (apply Tot.eql_t; omega))))
      conv => arg 2; simp (disch := first | omega | assumption) only [qai, qaj, qak, qaf]
      exact this
    · (repeat' first | (with_reducible first | apply Tot.of (qaa rfl) | apply Tot.of (qag rfl) | apply Tot.of (qax rfl) | apply Tot.of (qac rfl) | apply Tot.of (st_bnsum rfl) | apply Tot.of (qa3 rfl) | apply Tot.of (qay rfl) | apply Tot.of (st_it rfl) | apply Tot.bql (b := true) | apply Tot.bql (b := false) | apply Tot.ift | apply Tot.iff) | ((conv => arg 2; arg 1; simp (disch := first | omega | assumption) only [qae, qao, Nat.add_zero, qai, qaj, qak, qaf, qam, rx_box, hpl, r31, g1, hld]); (with_reducible first | apply Tot.of (qaa rfl) | apply Tot.bql (b := true) | (apply Tot.eql_t; omega) | (apply Tot.eql_f; omega))))
      conv => arg 2; simp (disch := first | omega | assumption) only [qai, qaj, qak, qaf]
      exact this
  · have hop : r.op = 1 ∨ r.op = 2 ∨ r.op = 3 := by omega
    have := s14_leaf A r hr hop p hp hn (A.length + 1) (by omega) p 0 S1 _ rfl (by omega) g2 g3 (leaf_is p r hop)
    rw [Int.natCast_zero] at this
    (repeat' first | (with_reducible first | apply Tot.of (qaa rfl) | apply Tot.of (qag rfl) | apply Tot.of (qax rfl) | apply Tot.of (qac rfl) | apply Tot.of (st_bnsum rfl) | apply Tot.of (qa3 rfl) | apply Tot.of (qay rfl) | apply Tot.of (st_it rfl) | apply Tot.bql (b := false) | apply Tot.ift | apply Tot.iff) | ((conv => arg 2; arg 1; simp (disch := first | omega | assumption) only [qae, qao, Nat.add_zero, qai, qaj, qak, qaf, qam, rx_box, hpl, r31, g1, hld]); (with_reducible first | apply Tot.of (qaa rfl) | apply Tot.bql (b := true) | (apply Tot.eql_t; omega) | (apply Tot.eql_f; omega))))
    conv => arg 2; simp (disch := first | omega | assumption) only [qai, qaj, qak, qaf]
    exact this
  · have := s14_diag p r hr hn A (SpOut p (Rx.sem p r) A) (A ++ [.cells [.int .i64 r.op, .str r.nm, encL 3 (r.ks.map encRx)]]) (A.length + 1) (by simp) (p.length + 1) rfl (p.length + 1) 0 S1 _ (by omega) g2 g3 (fun S' h1 h2 => by
      have hid : Is (p.length + 1) (diag (p.length + 1) 0 fun _ _ => false) (Rx.semSeq p []) :=
        (diag_is (a := fun _ _ => false) (R := fun _ _ => False) (fun i j _ _ => by simp)).congr fun i j => by unfold Rx.semSeq; simp
      have := s14_seq p r hr hn A hkd r.ks [] (A.length + 1) _ S' rfl h1 hid (by omega) h2
      simp only [List.length_nil, Int.natCast_zero] at this
      exact this.mono fun x ⟨k, m, T, q1, q2, q3, q4, q5⟩ => (⟨k, m, T, q1, q2, q3.congr fun i j => (sem_4 h0).symm, q4, q5⟩ : SpOut p (Rx.sem p r) A x))
    rw [Int.natCast_zero] at this
    (repeat' first | (with_reducible first | apply Tot.of (qaa rfl) | apply Tot.of (qag rfl) | apply Tot.of (qax rfl) | apply Tot.of (qac rfl) | apply Tot.of (st_bnsum rfl) | apply Tot.of (qa3 rfl) | apply Tot.of (qay rfl) | apply Tot.of (st_it rfl) | apply Tot.bql (b := true) | apply Tot.bql (b := false) | apply Tot.ift | apply Tot.iff) | ((conv => arg 2; arg 1; simp (disch := first | omega | assumption) only [qae, qao, Nat.add_zero, qai, qaj, qak, qaf, qam, rx_box, hpl, r31, g1, hld]); (with_reducible first | apply Tot.of (qaa rfl) | apply Tot.bql (b := false) | (apply Tot.eql_t; omega) | (apply Tot.eql_f; omega))))
    conv => arg 2; simp (disch := first | omega | assumption) only [qai, qaj, qak, qaf]
    exact this
  · have := s14_alt p r hr hn A hkd r.ks [] (A.length + 1) _ S1 rfl g2 (fun i j _ _ => by unfold Rx.semAlt; simp) (by omega) g3
    simp only [List.length_nil, Int.natCast_zero] at this
    have this := this.mono fun x ⟨k, m, T, q1, q2, q3, q4, q5⟩ => (⟨k, m, T, q1, q2, q3.congr fun i j => (sem_5 h0).symm, q4, q5⟩ : SpOut p (Rx.sem p r) A x)
    (repeat' first | (with_reducible first | apply Tot.of (qaa rfl) | apply Tot.of (qag rfl) | apply Tot.of (qax rfl) | apply Tot.of (qac rfl) | apply Tot.of (st_bnsum rfl) | apply Tot.of (qa3 rfl) | apply Tot.of (qay rfl) | apply Tot.of (st_it rfl) | apply Tot.bql (b := true) | apply Tot.bql (b := false) | apply Tot.ift | apply Tot.iff) | ((conv => arg 2; arg 1; simp (disch := first | omega | assumption) only [qae, qao, Nat.add_zero, qai, qaj, qak, qaf, qam, rx_box, hpl, r31, g1, hld]); (with_reducible first | apply Tot.of (qaa rfl) | apply Tot.bql (b := false) | (apply Tot.eql_t; omega) | (apply Tot.eql_f; omega))))
    conv => arg 2; simp (disch := first | omega | assumption) only [qai, qaj, qak, qaf]
    exact this
  · have hx := idx_drop (f := encRx) (l := r.ks) (i := 0) (x := k) (t := []) (by rw [hks]; rfl) 3 true .i64
    rw [Int.natCast_zero] at hx
    obtain ⟨_, hq, k', m', S2, rfl, hm', his', hk', hkk⟩ := hkd k (by rw [hks]; simp) S1
    have hk2 := g3.trans hkk
    have hl1 := hk2.len
    simp only [hln] at hl1
    have hl0 := g3.len
    simp only [hln] at hl0
    have hld2 := fun gg m off => load_get (keep_box p r hr hn A hk2).1 (gg := gg) (m := m) (off := off)
    rcases h0 with h0 | h0 | h0
    · obtain ⟨_, w1, S3, rfl, w2, w3⟩ := s14_wk p.length (p.length + 1) rfl (by omega) A.length k' (p.length + 1) 0 S2 m' (by omega) hm'
      rw [Int.natCast_zero] at w1
      have hk3 := hk2.pres w3 (by rw [hln]; omega)
      have his3 := (diag_is (wa_is his' (sem_le p k))).congr fun i j => (sem_6 h0 hks).symm
      have := s14_endD p r hr hn A (by omega) (Rx.sem p r) k' (by omega) (p.length + 1) 0 S3 _ (by omega) w2 hk3 his3
      rw [Int.natCast_zero] at this
      (repeat' first | (with_reducible first | apply Tot.of (qaa rfl) | apply Tot.of (qag rfl) | apply Tot.of (qax rfl) | apply Tot.of (qac rfl) | apply Tot.of (st_bnsum rfl) | apply Tot.of (qa3 rfl) | apply Tot.of (qay rfl) | apply Tot.of (st_it rfl) | apply Tot.of (st_bnit rfl) | apply Tot.bql (b := true) | apply Tot.bql (b := false) | apply Tot.ift | apply Tot.iff) | ((conv => arg 2; arg 1; simp (disch := first | omega | assumption) only [qae, qau, qao, ofCellsS, Nat.zero_add, Nat.add_zero, ofA3, qai, qaj, qak, mp_some, qaf, qam, rx_box, hpl, r31, g1, hld, hx, rx_cell, rx_fold, rx_canon, whos_canon, r14, hq, hld2, w1]); (with_reducible first | apply Tot.of (qaa rfl) | apply Tot.bql (b := false) | (apply Tot.eql_f; omega) | (apply Tot.neq_f; omega))))
      conv => arg 2; simp (disch := first | omega | assumption) only [qai, qaj, qak, qaf]
      exact this
    · obtain ⟨_, w1, S3, rfl, w2, w3⟩ := s14_wk p.length (p.length + 1) rfl (by omega) A.length k' (p.length + 1) 0 S2 m' (by omega) hm'
      rw [Int.natCast_zero] at w1
      have hk3 := hk2.pres w3 (by rw [hln]; omega)
      have his3 := (wa_is his' (sem_le p k)).congr fun i j => (sem_7 h0 hks).symm
      have := s14_end7 p r hr hn A h0 (Rx.sem p r) k' _ 0 S3 w2 his3 (by omega) hk3
      rw [Int.natCast_zero] at this
      (repeat' first | (with_reducible first | apply Tot.of (qaa rfl) | apply Tot.of (qag rfl) | apply Tot.of (qax rfl) | apply Tot.of (qac rfl) | apply Tot.of (st_bnsum rfl) | apply Tot.of (qa3 rfl) | apply Tot.of (qay rfl) | apply Tot.of (st_it rfl) | apply Tot.of (st_bnit rfl) | apply Tot.bql (b := true) | apply Tot.bql (b := false) | apply Tot.ift | apply Tot.iff) | ((conv => arg 2; arg 1; simp (disch := first | omega | assumption) only [qae, qau, qao, ofCellsS, Nat.zero_add, Nat.add_zero, ofA3, qai, qaj, qak, mp_some, qaf, qam, rx_box, hpl, r31, g1, hld, hx, rx_cell, rx_fold, rx_canon, whos_canon, r14, hq, hld2, w1]); (with_reducible first | apply Tot.of (qaa rfl) | apply Tot.bql (b := false) | (apply Tot.eql_f; omega) | (apply Tot.neq_f; omega))))
      conv => arg 2; simp (disch := first | omega | assumption) only [qai, qaj, qak, qaf]
      exact this
    · have his3 := (diag_is his').congr fun i j => (sem_8 h0 hks).symm
      have := s14_endD p r hr hn A (by omega) (Rx.sem p r) k' (by omega) (p.length + 1) 0 S2 _ (by omega) hm' hk2 his3
      rw [Int.natCast_zero] at this
      (repeat' first | (with_reducible first | apply Tot.of (qaa rfl) | apply Tot.of (qag rfl) | apply Tot.of (qax rfl) | apply Tot.of (qac rfl) | apply Tot.of (st_bnsum rfl) | apply Tot.of (qa3 rfl) | apply Tot.of (qay rfl) | apply Tot.of (st_it rfl) | apply Tot.bql (b := false) | apply Tot.iff) | ((conv => arg 2; arg 1; simp (disch := first | omega | assumption) only [qae, qau, qao, ofCellsS, Nat.zero_add, Nat.add_zero, ofA3, qai, qaj, qak, mp_some, qaf, qam, rx_box, hpl, r31, g1, hld, hx, rx_cell, rx_fold, rx_canon, whos_canon, r14, hq, hld2]); (with_reducible first | apply Tot.of (qaa rfl) | apply Tot.bql (b := false) | (apply Tot.eql_f; omega) | (apply Tot.neq_t; omega))))
      conv => arg 2; simp (disch := first | omega | assumption) only [qai, qaj, qak, qaf]
      exact this
end Go.Vm.Rx

/- The law of which paths are of an expression. -/
namespace Go.Vm.Rx
open Go Go.Proofs P
set_option linter.unusedVariables false
set_option linter.unusedSimpArgs false
set_option linter.unusedSectionVars false
set_option maxRecDepth 10000
set_option maxHeartbeats 4000000
theorem s6 (p : List Who) (hp : ∀ w, w ∈ p → WhoOk w) (hn : p.length ≤ 900) (r : P.Rx) (hr : r.Ok) (A : St) :
    f6 mL (Run Tryz.prog rxA) (Dcall Tryz.prog rxA) (encRx r) (encL 2 (p.map encWho)) A = some (.ret (if r.check = 0 then .tup [.bool (isOf p r), .int .i64 0] else .tup [.bool false, .int .i64 r.check]), A) := by
  have hck := fun A => s13 r hr A
  have hpl : lenSlO (encL 2 (p.map encWho)) = some (.int .i64 (p.length : Nat)) := by simp
  unfold f6
  refine Tot.eq ?_
  by_cases h : r.check = 0
  · rw [if_pos h]
    rw [h] at hck
    obtain ⟨h1, h2, h3⟩ := check_0 h
    obtain ⟨_, hq, k, m, S, rfl, hm, his, hk, hkk⟩ := s14 p hp hn r hr h3 (A ++ [.cells [.int .i64 r.op, .str r.nm, encL 3 (r.ks.map encRx)]])
    have hi0 : 0 < p.length + 1 := by omega
    have hin : p.length < p.length + 1 := by omega
    have hx0 := tabD_ix (k := k) hi0 .i64
    rw [Int.natCast_zero] at hx0
    have hxn := fun q => ix_v (k := q) hin .i64
    have hb := tb_bit hm hi0 hin
    have hkA := (keep_box p r hr hn A hkk).2
    have hval : m 0 p.length = isOf p r := by
      unfold isOf
      rw [Bool.eq_iff_iff, his 0 p.length hi0 hin]
      simp
    rw [hval] at hb
    have hkp : Kept A S ↔ True := iff_true_intro (keeps_kept hkA)
    have htk : S.take A.length = A := keeps_take hkA
    (repeat' first | (with_reducible first | apply Tot.of (qax rfl) | apply Tot.of (qa3 rfl) | apply Tot.of (st_leave rfl) | apply Tot.bql (b := false) | apply Tot.iff) | ((conv => arg 2; arg 1; simp (disch := first | omega | assumption) only [qau, qao, Nat.add_zero, ofA3, qaf, qaz, ld_sh0, ldc0, List.length_map, rx_box, rx_fold, rx_canon, whos_canon, r13, hck, r14, hq, hx0, hxn, hb]); (with_reducible first | apply Tot.of (qaa rfl) | (apply Tot.neq_t; omega))))
    ((try conv => arg 2; simp (disch := first | omega | assumption) only [qah, qa1, qav, shut_tup, shutL_nil, shutL_cons, qad, qaf, qam, qat, canon_tup, canonL_nil, canonL_cons, qab, qal, hkp, htk]); refine Tot.ret ?_)
    rfl
  · rw [if_neg h]
    (repeat' first | (with_reducible first | apply Tot.of (qax rfl) | apply Tot.of (qa3 rfl) | apply Tot.of (st_leave rfl) | apply Tot.bql (b := true) | apply Tot.ift) | ((conv => arg 2; arg 1; simp (disch := first | omega | assumption) only [ofA3, qaf, ld_sh0, ldc0, rx_box, rx_fold, rx_canon, r13, hck]); (with_reducible first | apply Tot.of (qaa rfl) | (apply Tot.neq_f; omega))))
    ((try conv => arg 2; simp (disch := first | omega | assumption) only [qah, qa1, qav, shut_tup, shutL_nil, shutL_cons, qar, qad, qam, qat, canon_tup, canonL_nil, canonL_cons, qab, qal, List.take_left']); refine Tot.ret ?_)
    rfl
theorem nm_canon (o : Int) (r : P.Rx) : (nmR o r).canon = nmR o r := strs_canon _ 1
theorem nm_same (o : Int) (r : P.Rx) (A : St) : f9 mL (Run Tryz.prog rxA) (Dcall Tryz.prog rxA) (nmR o r) (nmR o r) A = some (.ret (.bool true), A) := by
  unfold nmR
  refine s9 A _ ?_
  split
  · rename_i h
    have h1 := (check_0 h).1
    have := pn_len o r
    omega
  · simp
theorem lawM (r : P.Rx) (hr : r.Ok) (p : List Who) (hl : p.length ≤ 2000000) (hp : ∀ w, w ∈ p → WhoOk w) (A : St) : f3 mL (Run Tryz.prog rxA) (Dcall Tryz.prog rxA) (encRx r) (encL 2 (p.map encWho)) A = some (.ret (.bool true), A) := by
  have hpa := fun A => s4 p (by omega) A
  have hp' : ∀ w, w ∈ p.take 30 → WhoOk w := fun w hw => hp w (List.mem_of_mem_take hw)
  have hn' : (p.take 30).length ≤ 900 := by rw [List.length_take]; omega
  have m1 := fun A => s5 (p.take 30) hp' hn' r hr A
  have m2 := fun A => s6 (p.take 30) hp' hn' r hr A
  have n1 := fun A => s7 r hr A
  have n2 := fun A => s8 r hr A
  have hsm := fun o A => nm_same o r A
  unfold f3
  refine Tot.eq ?_
  by_cases h : r.check = 0
  · rw [if_pos h] at m1 m2
    (repeat' first | (with_reducible first | apply Tot.of (qaa rfl) | apply Tot.of (qax rfl) | apply Tot.of (qac rfl) | apply Tot.of (qa3 rfl) | apply Tot.of (st_leave rfl) | apply Tot.gbl (b := true) | apply Tot.bql (b := true) | apply Tot.iftt | (apply Tot.eql_t; omega)) | ((conv => arg 2; arg 1; simp (disch := first | omega | assumption) only [qa2, ofA3, ld_sh0, ldc0, ext0, extS, rx_box, rx_fold, rx_canon, whos_canon, r4, hpa, r5, m1, r6, m2, r7, n1, r8, n2, r9, nm_canon, hsm, bool_eql, alive_st]); (with_reducible first | apply Tot.of (qaa rfl) | apply Tot.gbl (b := true) | apply Tot.bql (b := true))))
    ((try conv => arg 2; simp (disch := first | omega | assumption) only [qa2, qah, qav, qar, qad, qat, qab, qal, List.take_left']); refine Tot.ret ?_)
    rfl
  · rw [if_neg h] at m1 m2
    (repeat' first | (with_reducible first | apply Tot.of (qaa rfl) | apply Tot.of (qax rfl) | apply Tot.of (qac rfl) | apply Tot.of (qa3 rfl) | apply Tot.of (st_leave rfl) | apply Tot.gbl (b := true) | apply Tot.bql (b := true) | apply Tot.iftt | (apply Tot.eql_t; omega)) | ((conv => arg 2; arg 1; simp (disch := first | omega | assumption) only [qa2, ofA3, ld_sh0, ldc0, ext0, extS, rx_box, rx_fold, rx_canon, whos_canon, r4, hpa, r5, m1, r6, m2, r7, n1, r8, n2, r9, nm_canon, hsm, bool_eql, alive_st]); (with_reducible first | apply Tot.of (qaa rfl) | apply Tot.gbl (b := true) | apply Tot.bql (b := true))))
    ((try conv => arg 2; simp (disch := first | omega | assumption) only [qa2, qah, qav, qar, qad, qat, qab, qal, List.take_left']); refine Tot.ret ?_)
    rfl
end Go.Vm.Rx
