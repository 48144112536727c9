/- RxS44, RxS45, RxS46 in one text. -/
import Derived.Test.YtikjlgcbcljehaaGreatDoorRxS24
import Derived.Test.YtikjlgcbcljehaaGreatDoorVmTab
set_option linter.all false
/- Tables: none, here, or. -/
namespace Go.Vm.Rx
open Go Go.Proofs P
set_option linter.unusedVariables false
set_option linter.unusedSimpArgs false
set_option linter.unusedSectionVars false
set_option maxRecDepth 10000
set_option maxHeartbeats 2000000
/-- a new table behind a store -/
def NewM (A : St) (N : Nat) (m : Mt) (x : Res × St) : Prop := ∃ S, x = (.ret (.vsl A.length 0 1 N), S) ∧ Mat S A.length N m ∧ KeepS A S
theorem NewM.get {A : St} {N : Nat} {m : Mt} {x : ORes} (h : Tot (NewM A N m) x) : ∃ S, x = some (.ret (.vsl A.length 0 1 N), S) ∧ Mat S A.length N m ∧ KeepS A S := by
  obtain ⟨_, h1, S, rfl, h2, h3⟩ := h
  exact ⟨S, h1, h2, h3⟩
theorem s22_loop (A : St) (n N : Nat) (hn : N = n + 1) (hN : N ≤ 1000) : ∀ (f i : Nat), i + f = N →
    iterK (f22_s0 mL (Run Tryz.prog rxA) (Dcall Tryz.prog rxA) A) (Env.mk (sp [(0, .int .i64 (n : Nat)), (2, .vsl A.length 0 1 N), (5, .int .i64 (N : Nat)), (0, .int .i64 (i : Nat))] 10) []) (partM A N i) = some (.ret (.vsl A.length 0 1 N), partM A N N) := by
  intro f
  induction f with
  | zero =>
    intro i hi
    have : i = N := by omega
    subst this
    refine Tot.eq (Tot.iter ?_)
    conv => arg 2; arg 1; unfold f22_s0
    (repeat' first | (with_reducible first | apply Tot.of (qag rfl) | apply Tot.of (qa0 rfl) | apply Tot.of (qac rfl) | apply Tot.of (st_inr rfl) | apply Tot.of (qas rfl) | apply Tot.bql (b := false) | apply Tot.iff) | ((conv => arg 2; arg 1; simp (disch := first | omega | assumption) only [Option.map_some, leave_keep, qaq, qai, qaj, qak]); (with_reducible first | apply Tot.of (qaa rfl) | (apply Tot.lss_f; omega))))
    ((try conv => arg 2; simp (disch := first | omega | assumption) only []); refine Tot.ret ?_)
    rfl
  | succ f ih =>
    intro i hi
    have hlt : i < N := by omega
    have hix := ix_v (k := A.length) hlt .i64
    have hmk := make_v (n := 1) (b := 1) (N := N) (zc := [.bool false]) (A := partM A N i) (by omega) (by omega) (by omega) rfl
    rw [hn, Int.natCast_add, Int.natCast_one] at hmk
    rw [← hn] at hmk
    have hst := partM_next (A := A) hlt
    refine Tot.eq (Tot.iter ?_)
    conv => arg 2; arg 1; unfold f22_s0
    (repeat' first | (with_reducible first | apply Tot.of (qaa rfl) | apply Tot.of (qag rfl) | apply Tot.of (qax rfl) | apply Tot.of (qac rfl) | apply Tot.of (qay rfl) | apply Tot.bql (b := true) | apply Tot.ift) | ((conv => arg 2; arg 1; simp (disch := first | omega | assumption) only [qap, qan, qai, qaj, qak, qaf, hix, hmk, hst]); (with_reducible first | apply Tot.of (qaa rfl) | (apply Tot.lss_t; omega))))
    (refine Tot.of_eq ?_; (conv => lhs; simp (disch := first | omega | assumption) only [qai, qaj, qak]); have := ih (i + 1) (by omega); rw [Int.natCast_add, Int.natCast_one] at this; exact this)
theorem s22 (A : St) (n : Nat) (hn : n ≤ 999) : Tot (NewM A (n + 1) fun _ _ => false) (f22 mL (Run Tryz.prog rxA) (Dcall Tryz.prog rxA) (.int .i64 (n : Nat)) A) := by
  have hmk := make_v (n := 1) (b := 24) (N := n + 1) (zc := [.sl .full 0 []]) (A := A) (by omega) (by omega) (by omega) rfl
  rw [partM_0, Int.natCast_add, Int.natCast_one] at hmk
  have hlo := s22_loop A n (n + 1) rfl (by omega) (n + 1) 0 (by omega)
  rw [Int.natCast_add, Int.natCast_one] at hlo
  have hlv : ∀ k o e m, lenSlO (.vsl k o e m) = some (.int .i64 m) := fun _ _ _ _ => rfl
  unfold f22
  refine Tot.mono (P := fun x => x = (.ret (.vsl A.length 0 1 (n + 1)), partM A (n + 1) (n + 1))) ?_ fun x hx => ⟨_, hx, partM_all _ _, partM_keeps _ _ _⟩
  (repeat' first | (with_reducible first | apply Tot.of (st_it rfl)) | ((conv => arg 2; arg 1; simp (disch := first | omega | assumption) only [qap, qan, qaf, hmk, hlv, Int.natCast_add, Int.natCast_one]); (with_reducible first | apply Tot.of (qaa rfl))))
  (refine Tot.of_eq ?_; (conv => lhs; simp (disch := first | omega | assumption) only [qaf]); exact hlo)
/-! here -/
/-- a table whose values were laid in place -/
def OldM (S : St) (k N : Nat) (m : Mt) (x : Res × St) : Prop := ∃ S', x = (.ret (.vsl k 0 1 N), S') ∧ Mat S' k N m ∧ Pres S S' k N
theorem OldM.get {S : St} {k N : Nat} {m : Mt} {x : ORes} (h : Tot (OldM S k N m) x) : ∃ S', x = some (.ret (.vsl k 0 1 N), S') ∧ Mat S' k N m ∧ Pres S S' k N := by
  obtain ⟨_, h1, S, rfl, h2, h3⟩ := h
  exact ⟨S, h1, h2, h3⟩
def diag : Nat → Nat → Mt → Mt
  | 0, _, m => m
  | f + 1, i, m => diag f (i + 1) (updM m i i true)
theorem diag_get : ∀ (f i : Nat) (m : Mt) (a b : Nat), diag f i m a b = (m a b || decide (a = b ∧ i ≤ a ∧ a < i + f))
  | 0, i, m, a, b => by
    have : ¬ (a = b ∧ i ≤ a ∧ a < i + 0) := by omega
    rw [decide_eq_false this]; simp [diag]
  | f + 1, i, m, a, b => by
    unfold diag
    rw [diag_get f (i + 1)]
    unfold updM
    by_cases h : a = i ∧ b = i
    · have h2 : (a = b ∧ i ≤ a ∧ a < i + (f + 1)) := by omega
      rw [decide_eq_true h2, if_pos h]
      simp
    · rw [if_neg h]
      congr 1
      rw [Bool.eq_iff_iff]
      simp only [decide_eq_true_eq]
      omega
theorem lenV (k o e m : Nat) : lenSlO (.vsl k o e m) = some (.int .i64 (m : Nat)) := rfl
theorem s24_loop (A : St) (k N : Nat) (hN : N ≤ 1000) : ∀ (f i : Nat) (S : St) (m : Mt), i + f = N → Mat S k N m →
    Tot (OldM S k N (diag f i m)) (iterK (f24_s0 mL (Run Tryz.prog rxA) (Dcall Tryz.prog rxA) A) (Env.mk (sp [(3, .vsl k 0 1 N), (4, .int .i64 (N : Nat)), (0, .int .i64 (i : Nat))] 10) []) S) := by
  intro f
  induction f with
  | zero =>
    intro i S m hi hm
    refine Tot.iter ?_
    conv => arg 2; arg 1; unfold f24_s0
    (repeat' first | (with_reducible first | apply Tot.of (qag rfl) | apply Tot.of (qa0 rfl) | apply Tot.of (qac rfl) | apply Tot.of (st_inr rfl) | apply Tot.of (qas rfl) | apply Tot.bql (b := false) | apply Tot.iff) | ((conv => arg 2; arg 1; simp (disch := first | omega | assumption) only [Option.map_some, leave_keep, qaq, qai, qaj, qak]); (with_reducible first | apply Tot.of (qaa rfl) | (apply Tot.lss_f; omega))))
    ((try conv => arg 2; simp (disch := first | omega | assumption) only []); refine Tot.ret ?_)
    exact ⟨S, rfl, hm, Pres.refl _ _ _⟩
  | succ f ih =>
    intro i S m hi hm
    have hlt : i < N := by omega
    have hix := fun q => ix_v (k := q) hlt .i64
    have hld := ld_row hm hlt
    have hst := sto_bit hm hlt hlt true
    refine Tot.iter ?_
    conv => arg 2; arg 1; unfold f24_s0
    (repeat' first | (with_reducible first | apply Tot.of (qaa rfl) | apply Tot.of (qag rfl) | apply Tot.of (qax rfl) | apply Tot.of (qac rfl) | apply Tot.of (qay rfl) | apply Tot.bql (b := true) | apply Tot.ift) | ((conv => arg 2; arg 1; simp (disch := first | omega | assumption) only [qap, qan, qai, qaj, qak, qaf, hix, hld, hst]); (with_reducible first | apply Tot.of (qaa rfl) | (apply Tot.lss_t; omega))))
    conv => arg 2; simp (disch := first | omega | assumption) only [qai, qaj, qak]
    have := ih (i + 1) _ _ (by omega) (wrM_mat hm hlt true (j := i))
    rw [Int.natCast_add, Int.natCast_one] at this
    exact this.mono fun x ⟨S', h1, h2, h3⟩ => ⟨S', h1, h2, (wrM_pres hm hlt true).trans h3⟩
def idM : Mt := fun a b => decide (a = b)
theorem s24 (A : St) (n : Nat) (hn : n ≤ 999) : Tot (NewM A (n + 1) idM) (f24 mL (Run Tryz.prog rxA) (Dcall Tryz.prog rxA) (.int .i64 (n : Nat)) A) := by
  obtain ⟨S, h1, h2, h3⟩ := NewM.get (s22 A n hn)
  obtain ⟨S', g1, g2, g3⟩ := OldM.get (s24_loop A A.length (n + 1) (by omega) (n + 1) 0 S _ (by omega) h2)
  rw [Int.natCast_add, Int.natCast_one, Int.natCast_zero] at g1
  unfold f24
  refine Tot.mono (P := fun x => x = (.ret (.vsl A.length 0 1 (n + 1)), S')) ?_ fun x hx => ⟨S', hx, g2.congr fun i j hi hj => ?_, h3.pres g3 (Nat.le_refl _)⟩
  · (repeat' first | (with_reducible first | apply Tot.of (qa3 rfl) | apply Tot.of (st_it rfl)) | ((conv => arg 2; arg 1; simp (disch := first | omega | assumption) only [qam, r22, h1, lenV, Int.natCast_add, Int.natCast_one]); (with_reducible first | apply Tot.of (qaa rfl))))
    (refine Tot.of_eq ?_; (conv => lhs; simp (disch := first | omega | assumption) only [qaf]); exact g1)
  · rw [diag_get]
    unfold idM
    rw [Bool.eq_iff_iff]
    simp
    omega
/-! or -/
/-- a loop goes on behind, a table was laid in place -/
def InlM {β : Type} (e : Env) (S : St) (k N : Nat) (m : Mt) (x : (Env × St) ⊕ β) : Prop := ∃ S', x = Sum.inl (e, S') ∧ Mat S' k N m ∧ Pres S S' k N
theorem InlM.of {β : Type} {e : Env} {S T : St} {k N : Nat} {m m' : Mt} {x : (Env × St) ⊕ β} (h : InlM e T k N m x) (p : Pres S T k N) (he : m = m') : InlM e S k N m' x := by
  obtain ⟨S', h1, h2, h3⟩ := h
  exact ⟨S', h1, he ▸ h2, p.trans h3⟩
theorem s26_row (ka kb N i : Nat) (b : Mt) (hN : N ≤ 1000) (hi : i < N) (hd : ka + N < kb ∨ kb + N < ka) : ∀ (f j : Nat) (S : St) (m : Mt), j + f = N → Mat S ka N m → Mat S kb N b →
    Tot (InlM (Env.mk (sp [(0, .vsl ka 0 1 N), (0, .vsl kb 0 1 N), (6, .int .i64 (N : Nat)), (0, .int .i64 ((i : Int) + 1))] 32) []) S ka N (rowAdd (b i) i f j m))
      (iterK (f26_s0 mL (Run Tryz.prog rxA) (Dcall Tryz.prog rxA)) (Env.mk (sp [(0, .vsl ka 0 1 N), (0, .vsl kb 0 1 N), (3, .int .i64 (i : Nat)), (2, .int .i64 (N : Nat)), (0, .int .i64 (i : Nat)), (3, .int .i64 (N : Nat)), (0, .int .i64 (j : Nat))] 27) []) S) := by
  intro f
  induction f with
  | zero =>
    intro j S m hj hm hb
    refine Tot.iter ?_
    conv => arg 2; arg 1; unfold f26_s0
    (repeat' first | (with_reducible first | apply Tot.of (qaa rfl) | apply Tot.of (qag rfl) | apply Tot.of (qa0 rfl) | apply Tot.of (qac rfl) | apply Tot.of (st_inr rfl) | apply Tot.bql (b := false) | apply Tot.iff) | ((conv => arg 2; arg 1; simp (disch := first | omega | assumption) only [qap, qan, qai, qaj, qak, qaf]); (with_reducible first | apply Tot.of (qaa rfl) | (apply Tot.lss_f; omega))))
    ((try conv => arg 2; simp (disch := first | omega | assumption) only [qai, qaj, qak]); refine Tot.ret ?_)
    exact ⟨S, rfl, hm, Pres.refl _ _ _⟩
  | succ f ih =>
    intro j S m hj hm hb
    have hlt : j < N := by omega
    have hixi := fun q => ix_v (k := q) hi .i64
    have hixj := fun q => ix_v (k := q) hlt .i64
    have hlda := ld_row hm hi
    have hldb := ld_row hb hi
    have hba := ld_bit hm hi hlt
    have hbb := ld_bit hb hi hlt
    have hst := fun v => sto_bit hm hi hlt v
    have step := fun v => ih (j + 1) (wrM S ka N m i j v) _ (by omega) (wrM_mat hm hi v (j := j)) (hb.pres (wrM_pres hm hi v) hd.symm)
    have fin := fun v (hv : v = (m i j || b i j)) => (step v).mono fun x h => InlM.of h (wrM_pres hm hi v) (show rowAdd (b i) i f (j + 1) (updM m i j v) = rowAdd (b i) i (f + 1) j m by rw [hv]; rfl)
    simp only [Int.natCast_add, Int.natCast_one] at fin
    refine Tot.iter ?_
    conv => arg 2; arg 1; unfold f26_s0
    by_cases hmij : m i j = true
    · rw [hmij] at hba
      (repeat' first | (with_reducible first | apply Tot.of (qaa rfl) | apply Tot.of (qag rfl) | apply Tot.of (qax rfl) | apply Tot.of (qac rfl) | apply Tot.of (qaw rfl) | apply Tot.of (qay rfl) | apply Tot.of (st_guard rfl) | apply Tot.of (st_bngs rfl) | apply Tot.gbl (b := true) | apply Tot.bql (b := true) | apply Tot.ift | apply Tot.iftf) | ((conv => arg 2; arg 1; simp (disch := first | omega | assumption) only [qa2, qap, qan, qai, qaj, qak, qaf, hixi, hixj, hlda, hba, hst]); (with_reducible first | apply Tot.of (qaa rfl) | (apply Tot.lss_t; omega))))
      conv => arg 2; simp (disch := first | omega | assumption) only [qai, qaj, qak]
      exact fin true (by simp [hmij])
    · simp only [Bool.not_eq_true] at hmij
      rw [hmij] at hba
      (repeat' first | (with_reducible first | apply Tot.of (qaa rfl) | apply Tot.of (qag rfl) | apply Tot.of (qax rfl) | apply Tot.of (qac rfl) | apply Tot.of (qaw rfl) | apply Tot.of (qay rfl) | apply Tot.of (st_guard rfl) | apply Tot.of (st_bngs rfl) | apply Tot.gbl (b := false) | apply Tot.bql (b := true) | apply Tot.bql (b := false) | apply Tot.ift | apply Tot.ifff) | ((conv => arg 2; arg 1; simp (disch := first | omega | assumption) only [ifb_false, qap, qan, qai, qaj, qak, qaf, hixi, hixj, hlda, hldb, hba, hbb, hst]); (with_reducible first | apply Tot.of (qaa rfl) | (apply Tot.lss_t; omega))))
      conv => arg 2; simp (disch := first | omega | assumption) only [qai, qaj, qak]
      exact fin (b i j) (by simp [hmij])
def orI (b : Mt) (N : Nat) : Nat → Nat → Mt → Mt
  | 0, _, m => m
  | f + 1, i, m => orI b N f (i + 1) (rowAdd (b i) i N 0 m)
theorem orI_get (b : Mt) (N : Nat) : ∀ (f i : Nat) (m : Mt) (a c : Nat), c < N → orI b N f i m a c = (m a c || (decide (i ≤ a ∧ a < i + f) && b a c))
  | 0, i, m, a, c, hc => by
    have : ¬ (i ≤ a ∧ a < i + 0) := by omega
    rw [decide_eq_false this]; simp [orI]
  | f + 1, i, m, a, c, hc => by
    unfold orI
    rw [orI_get b N f (i + 1) _ a c hc, rowAdd_get]
    by_cases h : a = i
    · subst h
      have h1 : (a = a ∧ 0 ≤ c ∧ c < 0 + N) := by omega
      have h2 : ¬ (a + 1 ≤ a ∧ a < a + 1 + f) := by omega
      have h3 : (a ≤ a ∧ a < a + (f + 1)) := by omega
      rw [decide_eq_true h1, decide_eq_false h2, decide_eq_true h3]
      simp
    · have h1 : ¬ (a = i ∧ 0 ≤ c ∧ c < 0 + N) := by omega
      rw [decide_eq_false h1]
      simp only [Bool.false_and, Bool.or_false]
      congr 2
      rw [Bool.eq_iff_iff]
      simp only [decide_eq_true_eq]
      omega
theorem s26_loop (A : St) (ka kb N : Nat) (b : Mt) (hN : N ≤ 1000) (hd : ka + N < kb ∨ kb + N < ka) : ∀ (f i : Nat) (S : St) (m : Mt), i + f = N → Mat S ka N m → Mat S kb N b →
    Tot (OldM S ka N (orI b N f i m)) (iterK (f26_s1 mL (Run Tryz.prog rxA) (Dcall Tryz.prog rxA) A) (Env.mk (sp [(0, .vsl ka 0 1 N), (0, .vsl kb 0 1 N), (6, .int .i64 (N : Nat)), (0, .int .i64 (i : Nat))] 32) []) S) := by
  intro f
  induction f with
  | zero =>
    intro i S m hi hm hb
    refine Tot.iter ?_
    conv => arg 2; arg 1; unfold f26_s1
    (repeat' first | (with_reducible first | apply Tot.of (qag rfl) | apply Tot.of (qa0 rfl) | apply Tot.of (qac rfl) | apply Tot.of (st_inr rfl) | apply Tot.of (qas rfl) | apply Tot.bql (b := false) | apply Tot.iff) | ((conv => arg 2; arg 1; simp (disch := first | omega | assumption) only [Option.map_some, leave_keep, qaq, qai, qaj, qak]); (with_reducible first | apply Tot.of (qaa rfl) | (apply Tot.lss_f; omega))))
    ((try conv => arg 2; simp (disch := first | omega | assumption) only []); refine Tot.ret ?_)
    exact ⟨S, rfl, hm, Pres.refl _ _ _⟩
  | succ f ih =>
    intro i S m hi hm hb
    have hlt : i < N := by omega
    obtain ⟨_, hq, S', rfl, h2, h3⟩ := s26_row ka kb N i b hN hlt hd N 0 S m (by omega) hm hb
    rw [Int.natCast_zero] at hq
    have := ih (i + 1) S' _ (by omega) h2 (hb.pres h3 hd.symm)
    rw [Int.natCast_add, Int.natCast_one] at this
    refine Tot.iter ?_
    conv => arg 2; arg 1; unfold f26_s1
    (repeat' first | (with_reducible first | apply Tot.of (qag rfl) | apply Tot.of (qac rfl) | apply Tot.of (qay rfl) | apply Tot.of (st_bnit rfl) | apply Tot.bql (b := true) | apply Tot.ift) | ((conv => arg 2; arg 1; simp (disch := first | omega | assumption) only [qai, qaj, qak, qaf, lenV, hq]); (with_reducible first | apply Tot.of (qaa rfl) | (apply Tot.lss_t; omega))))
    conv => arg 2; simp (disch := first | omega | assumption) only []
    exact this.mono fun x ⟨T, h4, h5, h6⟩ => ⟨T, h4, h5, h3.trans h6⟩
def orM (a b : Mt) : Mt := fun i j => a i j || b i j
theorem s26 (A S : St) (ka kb N : Nat) (a b : Mt) (hN : N ≤ 1000) (hd : ka + N < kb ∨ kb + N < ka) (ha : Mat S ka N a) (hb : Mat S kb N b) :
    Tot (OldM S ka N (orM a b)) (f26 mL (Run Tryz.prog rxA) (Dcall Tryz.prog rxA) (.vsl ka 0 1 N) (.vsl kb 0 1 N) S) := by
  have hlo := s26_loop S ka kb N b hN hd N 0 S a (by omega) ha hb
  rw [Int.natCast_zero] at hlo
  have hlo := hlo.mono fun x ⟨T, h4, h5, h6⟩ => (⟨T, h4, h5.congr fun i j hi hj => by rw [orI_get _ _ _ _ _ _ _ hj, decide_eq_true (by omega)]; simp [orM], h6⟩ : OldM S ka N (orM a b) x)
  unfold f26
  (repeat' first | (with_reducible first | apply Tot.of (st_it rfl)) | ((conv => arg 2; arg 1; simp (disch := first | omega | assumption) only [lenV]); (with_reducible first | apply Tot.of (qaa rfl))))
  conv => arg 2; simp (disch := first | omega | assumption) only [qaf]
  exact hlo
end Go.Vm.Rx

/- Tables: then. -/
namespace Go.Vm.Rx
open Go Go.Proofs P
set_option linter.unusedVariables false
set_option linter.unusedSimpArgs false
set_option linter.unusedSectionVars false
set_option maxRecDepth 10000
set_option maxHeartbeats 2000000
theorem s25_no (ka kb ko N i k j : Nat) (a : Mt) (hN : N ≤ 1000) (hi : i < N) (hk : k < N) (hf : a i k = false) (S : St) (m : Mt) (hm : Mat S ko N m) (ha : Mat S ka N a) :
    Tot (InlM (Env.mk (sp [(0, .vsl ka 0 1 N), (0, .vsl kb 0 1 N), (3, .vsl ko 0 1 N), (0, .int .i64 (i : Nat)), (0, .int .i64 ((k : Int) + 1)), (6, .int .i64 (N : Nat)), (0, .int .i64 (i : Nat))] 49) []) S ko N m)
      (iterK (f25_s0 mL (Run Tryz.prog rxA) (Dcall Tryz.prog rxA)) (Env.mk (sp [(0, .vsl ka 0 1 N), (0, .vsl kb 0 1 N), (3, .vsl ko 0 1 N), (0, .int .i64 (i : Nat)), (0, .int .i64 (k : Nat)), (0, .int .i64 (j : Nat)), (5, .int .i64 (N : Nat)), (0, .int .i64 (i : Nat))] 49) []) S) := by
  have hixi := fun q => ix_v (k := q) hi .i64
  have hixk := fun q => ix_v (k := q) hk .i64
  have hlda := ld_row ha hi
  have hba := ld_bit ha hi hk
  rw [hf] at hba
  refine Tot.iter ?_
  conv => arg 2; arg 1; unfold f25_s0
  (repeat' first | (with_reducible first | apply Tot.of (qaa rfl) | apply Tot.of (qag rfl) | apply Tot.of (qa0 rfl) | apply Tot.of (qax rfl) | apply Tot.of (qac rfl) | apply Tot.of (st_inr rfl) | apply Tot.gbl (b := false) | apply Tot.bql (b := false) | apply Tot.iff | apply Tot.ifft) | ((conv => arg 2; arg 1; simp (disch := first | omega | assumption) only [ifb_false, qap, qan, qai, qaj, qak, qaf, hixi, hixk, hlda, hba]); (with_reducible first | apply Tot.of (qaa rfl) | apply Tot.bql (b := false))))
  ((try conv => arg 2; simp (disch := first | omega | assumption) only [qai, qaj, qak]); refine Tot.ret ?_)
  exact ⟨S, rfl, hm, Pres.refl _ _ _⟩
theorem s25_row (ka kb ko N i k : Nat) (a b : Mt) (hN : N ≤ 1000) (hi : i < N) (hk : k < N) (ht : a i k = true) (hda : ka + N < ko) (hdb : kb + N < ko) : ∀ (f j : Nat) (S : St) (m : Mt), j + f = N → Mat S ko N m → Mat S ka N a → Mat S kb N b →
    Tot (InlM (Env.mk (sp [(0, .vsl ka 0 1 N), (0, .vsl kb 0 1 N), (3, .vsl ko 0 1 N), (0, .int .i64 (i : Nat)), (0, .int .i64 ((k : Int) + 1)), (6, .int .i64 (N : Nat)), (0, .int .i64 (i : Nat))] 49) []) S ko N (rowAdd (b k) i f j m))
      (iterK (f25_s0 mL (Run Tryz.prog rxA) (Dcall Tryz.prog rxA)) (Env.mk (sp [(0, .vsl ka 0 1 N), (0, .vsl kb 0 1 N), (3, .vsl ko 0 1 N), (0, .int .i64 (i : Nat)), (0, .int .i64 (k : Nat)), (0, .int .i64 (j : Nat)), (5, .int .i64 (N : Nat)), (0, .int .i64 (i : Nat))] 49) []) S) := by
  intro f
  induction f with
  | zero =>
    intro j S m hj hm ha hb
    have hixi := fun q => ix_v (k := q) hi .i64
    have hixk := fun q => ix_v (k := q) hk .i64
    have hlda := ld_row ha hi
    have hba := ld_bit ha hi hk
    rw [ht] at hba
    refine Tot.iter ?_
    conv => arg 2; arg 1; unfold f25_s0
    (repeat' first | (with_reducible first | apply Tot.of (qaa rfl) | apply Tot.of (qag rfl) | apply Tot.of (qa0 rfl) | apply Tot.of (qax rfl) | apply Tot.of (qac rfl) | apply Tot.of (st_inr rfl) | apply Tot.gbl (b := true) | apply Tot.bql (b := true) | apply Tot.iff | apply Tot.iftt) | ((conv => arg 2; arg 1; simp (disch := first | omega | assumption) only [qa2, qap, qan, qai, qaj, qak, qaf, hixi, hixk, hlda, hba, lenV]); (with_reducible first | apply Tot.of (qaa rfl) | apply Tot.bql (b := false) | (apply Tot.lss_f; omega))))
    ((try conv => arg 2; simp (disch := first | omega | assumption) only [qai, qaj, qak]); refine Tot.ret ?_)
    exact ⟨S, rfl, hm, Pres.refl _ _ _⟩
  | succ f ih =>
    intro j S m hj hm ha hb
    have hlt : j < N := by omega
    have hixi := fun q => ix_v (k := q) hi .i64
    have hixk := fun q => ix_v (k := q) hk .i64
    have hixj := fun q => ix_v (k := q) hlt .i64
    have hlda := ld_row ha hi
    have hba := ld_bit ha hi hk
    rw [ht] at hba
    have hldb := ld_row hb hk
    have hbb := ld_bit hb hk hlt
    have hldo := ld_row hm hi
    have hbo := ld_bit hm hi hlt
    have hst := fun v => sto_bit hm hi hlt v
    have step := fun v => ih (j + 1) (wrM S ko N m i j v) _ (by omega) (wrM_mat hm hi v (j := j)) (ha.pres (wrM_pres hm hi v) (.inl hda)) (hb.pres (wrM_pres hm hi v) (.inl hdb))
    have fin := fun v (hv : v = (m i j || b k j)) => (step v).mono fun x h => InlM.of h (wrM_pres hm hi v) (show rowAdd (b k) i f (j + 1) (updM m i j v) = rowAdd (b k) i (f + 1) j m by rw [hv]; rfl)
    simp only [Int.natCast_add, Int.natCast_one] at fin
    refine Tot.iter ?_
    conv => arg 2; arg 1; unfold f25_s0
    by_cases hmij : m i j = true
    · rw [hmij] at hbo
      (repeat' first | (with_reducible first | apply Tot.of (qaa rfl) | apply Tot.of (qag rfl) | apply Tot.of (qax rfl) | apply Tot.of (qac rfl) | apply Tot.of (qaw rfl) | apply Tot.of (qay rfl) | apply Tot.of (st_guard rfl) | apply Tot.of (st_bngs rfl) | apply Tot.gbl (b := true) | apply Tot.bql (b := true) | apply Tot.ift | apply Tot.iftt | apply Tot.iftf) | ((conv => arg 2; arg 1; simp (disch := first | omega | assumption) only [qa2, qap, qan, qai, qaj, qak, qaf, hixi, hixk, hixj, hlda, hba, hldo, hbo, hst, lenV]); (with_reducible first | apply Tot.of (qaa rfl) | apply Tot.bql (b := true) | (apply Tot.lss_t; omega))))
      conv => arg 2; simp (disch := first | omega | assumption) only [qai, qaj, qak]
      exact fin true (by simp [hmij])
    · simp only [Bool.not_eq_true] at hmij
      rw [hmij] at hbo
      (repeat' first | (with_reducible first | apply Tot.of (qaa rfl) | apply Tot.of (qag rfl) | apply Tot.of (qax rfl) | apply Tot.of (qac rfl) | apply Tot.of (qaw rfl) | apply Tot.of (qay rfl) | apply Tot.of (st_guard rfl) | apply Tot.of (st_bngs rfl) | apply Tot.gbl (b := true) | apply Tot.gbl (b := false) | apply Tot.bql (b := true) | apply Tot.bql (b := false) | apply Tot.ift | apply Tot.iftt | apply Tot.ifff) | ((conv => arg 2; arg 1; simp (disch := first | omega | assumption) only [qa2, ifb_false, qap, qan, qai, qaj, qak, qaf, hixi, hixk, hixj, hlda, hba, hldb, hbb, hldo, hbo, hst, lenV]); (with_reducible first | apply Tot.of (qaa rfl) | apply Tot.bql (b := true) | (apply Tot.lss_t; omega))))
      conv => arg 2; simp (disch := first | omega | assumption) only [qai, qaj, qak]
      exact fin (b k j) (by simp [hmij])
def thenK (N : Nat) (a b : Mt) (i : Nat) : Nat → Nat → Mt → Mt
  | 0, _, m => m
  | f + 1, k, m => thenK N a b i f (k + 1) (if a i k then rowAdd (b k) i (N - k) k m else m)
theorem s25_mid (ka kb ko N i : Nat) (a b : Mt) (hN : N ≤ 1000) (hi : i < N) (hda : ka + N < ko) (hdb : kb + N < ko) : ∀ (f k : Nat) (S : St) (m : Mt), k + f = N → Mat S ko N m → Mat S ka N a → Mat S kb N b →
    Tot (InlM (Env.mk (sp [(0, .vsl ka 0 1 N), (0, .vsl kb 0 1 N), (3, .vsl ko 0 1 N), (8, .int .i64 (N : Nat)), (0, .int .i64 ((i : Int) + 1))] 49) []) S ko N (thenK N a b i f k m))
      (iterK (f25_s1 mL (Run Tryz.prog rxA) (Dcall Tryz.prog rxA)) (Env.mk (sp [(0, .vsl ka 0 1 N), (0, .vsl kb 0 1 N), (3, .vsl ko 0 1 N), (0, .int .i64 (i : Nat)), (0, .int .i64 (k : Nat)), (6, .int .i64 (N : Nat)), (0, .int .i64 (i : Nat))] 49) []) S) := by
  intro f
  induction f with
  | zero =>
    intro k S m hk hm ha hb
    refine Tot.iter ?_
    conv => arg 2; arg 1; unfold f25_s1
    (repeat' first | (with_reducible first | apply Tot.of (qaa rfl) | apply Tot.of (qag rfl) | apply Tot.of (qa0 rfl) | apply Tot.of (qac rfl) | apply Tot.of (st_inr rfl) | apply Tot.bql (b := false) | apply Tot.iff) | ((conv => arg 2; arg 1; simp (disch := first | omega | assumption) only [qap, qan, qai, qaj, qak, qaf, lenV]); (with_reducible first | apply Tot.of (qaa rfl) | (apply Tot.lss_f; omega))))
    ((try conv => arg 2; simp (disch := first | omega | assumption) only [qai, qaj, qak]); refine Tot.ret ?_)
    exact ⟨S, rfl, hm, Pres.refl _ _ _⟩
  | succ f ih =>
    intro k S m hk hm ha hb
    have hlt : k < N := by omega
    have hin : ∃ S', (iterK (f25_s0 mL (Run Tryz.prog rxA) (Dcall Tryz.prog rxA)) (Env.mk (sp [(0, .vsl ka 0 1 N), (0, .vsl kb 0 1 N), (3, .vsl ko 0 1 N), (0, .int .i64 (i : Nat)), (0, .int .i64 (k : Nat)), (0, .int .i64 (k : Nat)), (5, .int .i64 (N : Nat)), (0, .int .i64 (i : Nat))] 49) []) S) =
        some (Sum.inl (Env.mk (sp [(0, .vsl ka 0 1 N), (0, .vsl kb 0 1 N), (3, .vsl ko 0 1 N), (0, .int .i64 (i : Nat)), (0, .int .i64 ((k : Int) + 1)), (6, .int .i64 (N : Nat)), (0, .int .i64 (i : Nat))] 49) [], S')) ∧
        Mat S' ko N (if a i k then rowAdd (b k) i (N - k) k m else m) ∧ Pres S S' ko N := by
      cases hc : a i k with
      | false =>
        obtain ⟨_, h1, S', rfl, h2, h3⟩ := s25_no ka kb ko N i k k a hN hi hlt hc S m hm ha
        exact ⟨S', h1, h2, h3⟩
      | true =>
        obtain ⟨_, h1, S', rfl, h2, h3⟩ := s25_row ka kb ko N i k a b hN hi hlt hc hda hdb (N - k) k S m (by omega) hm ha hb
        exact ⟨S', h1, h2, h3⟩
    obtain ⟨S', h1, h2, h3⟩ := hin
    have := ih (k + 1) S' _ (by omega) h2 (ha.pres h3 (.inl hda)) (hb.pres h3 (.inl hdb))
    rw [Int.natCast_add, Int.natCast_one] at this
    refine Tot.iter ?_
    conv => arg 2; arg 1; unfold f25_s1
    (repeat' first | (with_reducible first | apply Tot.of (qag rfl) | apply Tot.of (qac rfl) | apply Tot.of (qay rfl) | apply Tot.of (st_bnit rfl) | apply Tot.bql (b := true) | apply Tot.ift) | ((conv => arg 2; arg 1; simp (disch := first | omega | assumption) only [qai, qaj, qak, lenV, h1]); (with_reducible first | apply Tot.of (qaa rfl) | (apply Tot.lss_t; omega))))
    conv => arg 2; simp (disch := first | omega | assumption) only []
    exact this.mono fun x h => InlM.of h h3 rfl
def thenI (N : Nat) (a b : Mt) : Nat → Nat → Mt → Mt
  | 0, _, m => m
  | f + 1, i, m => thenI N a b f (i + 1) (thenK N a b i (N - i) i m)
theorem s25_loop (A : St) (ka kb ko N : Nat) (a b : Mt) (hN : N ≤ 1000) (hda : ka + N < ko) (hdb : kb + N < ko) : ∀ (f i : Nat) (S : St) (m : Mt), i + f = N → Mat S ko N m → Mat S ka N a → Mat S kb N b →
    Tot (OldM S ko N (thenI N a b f i m)) (iterK (f25_s2 mL (Run Tryz.prog rxA) (Dcall Tryz.prog rxA) A) (Env.mk (sp [(0, .vsl ka 0 1 N), (0, .vsl kb 0 1 N), (3, .vsl ko 0 1 N), (8, .int .i64 (N : Nat)), (0, .int .i64 (i : Nat))] 49) []) S) := by
  intro f
  induction f with
  | zero =>
    intro i S m hi hm ha hb
    refine Tot.iter ?_
    conv => arg 2; arg 1; unfold f25_s2
    (repeat' first | (with_reducible first | apply Tot.of (qag rfl) | apply Tot.of (qa0 rfl) | apply Tot.of (qac rfl) | apply Tot.of (st_inr rfl) | apply Tot.of (qas rfl) | apply Tot.bql (b := false) | apply Tot.iff) | ((conv => arg 2; arg 1; simp (disch := first | omega | assumption) only [Option.map_some, leave_keep, qaq, qai, qaj, qak]); (with_reducible first | apply Tot.of (qaa rfl) | (apply Tot.lss_f; omega))))
    ((try conv => arg 2; simp (disch := first | omega | assumption) only []); refine Tot.ret ?_)
    exact ⟨S, rfl, hm, Pres.refl _ _ _⟩
  | succ f ih =>
    intro i S m hi hm ha hb
    have hlt : i < N := by omega
    obtain ⟨_, h1, S', rfl, h2, h3⟩ := s25_mid ka kb ko N i a b hN hlt hda hdb (N - i) i S m (by omega) hm ha hb
    have := ih (i + 1) S' _ (by omega) h2 (ha.pres h3 (.inl hda)) (hb.pres h3 (.inl hdb))
    rw [Int.natCast_add, Int.natCast_one] at this
    refine Tot.iter ?_
    conv => arg 2; arg 1; unfold f25_s2
    (repeat' first | (with_reducible first | apply Tot.of (qag rfl) | apply Tot.of (qac rfl) | apply Tot.of (qay rfl) | apply Tot.of (st_bnit rfl) | apply Tot.bql (b := true) | apply Tot.ift) | ((conv => arg 2; arg 1; simp (disch := first | omega | assumption) only [qai, qaj, qak, h1]); (with_reducible first | apply Tot.of (qaa rfl) | (apply Tot.lss_t; omega))))
    conv => arg 2; simp (disch := first | omega | assumption) only []
    exact this.mono fun x ⟨T, h4, h5, h6⟩ => ⟨T, h4, h5, h3.trans h6⟩
theorem s25_ (S : St) (ka kb n : Nat) (a b : Mt) (hN : n ≤ 999) (ha : Mat S ka (n + 1) a) (hb : Mat S kb (n + 1) b) :
    Tot (NewM S (n + 1) (thenI (n + 1) a b (n + 1) 0 fun _ _ => false)) (f25 mL (Run Tryz.prog rxA) (Dcall Tryz.prog rxA) (.vsl ka 0 1 (n + 1)) (.vsl kb 0 1 (n + 1)) S) := by
  obtain ⟨T, h1, h2, h3⟩ := NewM.get (s22 S n hN)
  obtain ⟨T', g1, g2, g3⟩ := OldM.get (s25_loop S ka kb S.length (n + 1) a b (by omega) ha.lt hb.lt (n + 1) 0 T _ (by omega) h2 (ha.keeps h3) (hb.keeps h3))
  rw [Int.natCast_add, Int.natCast_one, Int.natCast_zero] at g1
  have e : ((n : Int) + 1 - 1) = (n : Nat) := by omega
  rw [← e] at h1
  unfold f25
  refine Tot.mono (P := fun x => x = (.ret (.vsl S.length 0 1 (n + 1)), T')) ?_ fun x hx => ⟨T', hx, g2, h3.pres g3 (Nat.le_refl _)⟩
  (repeat' first | (with_reducible first | apply Tot.of (qa3 rfl) | apply Tot.of (st_it rfl)) | ((conv => arg 2; arg 1; simp (disch := first | omega | assumption) only [binO_sub, qan, qaf, qam, r22, h1, lenV, Int.natCast_add, Int.natCast_one]); (with_reducible first | apply Tot.of (qaa rfl))))
  (refine Tot.of_eq ?_; (conv => lhs; simp (disch := first | omega | assumption) only [qaf]); exact g1)
end Go.Vm.Rx

/- Tables: again. -/
namespace Go.Vm.Rx
open Go Go.Proofs P
set_option linter.unusedVariables false
set_option linter.unusedSimpArgs false
set_option linter.unusedSectionVars false
set_option maxRecDepth 10000
set_option maxHeartbeats 2000000
theorem s27_no (ka ko N i j k : Nat) (a : Mt) (hN : N ≤ 1000) (hi : i < N) (hj : j < N) (hf : ¬ (a i j = true ∧ i < j)) (S : St) (m : Mt) (hm : Mat S ko N m) (ha : Mat S ka N a) :
    Tot (InlM (Env.mk (sp [(0, .vsl ka 0 1 N), (2, .vsl ko 0 1 N), (0, .int .i64 (i : Nat)), (0, .int .i64 ((j : Int) + 1))] 85) []) S ko N m)
      (iterK (f27_s0 mL (Run Tryz.prog rxA) (Dcall Tryz.prog rxA)) (Env.mk (sp [(0, .vsl ka 0 1 N), (2, .vsl ko 0 1 N), (0, .int .i64 (i : Nat)), (0, .int .i64 (j : Nat)), (0, .int .i64 (k : Nat))] 84) []) S) := by
  have hixi := fun q => ix_v (k := q) hi .i64
  have hixj := fun q => ix_v (k := q) hj .i64
  have hlda := ld_row ha hi
  have hba := ld_bit ha hi hj
  refine Tot.iter ?_
  conv => arg 2; arg 1; unfold f27_s0
  by_cases h : a i j = true
  · have hij : ¬ i < j := fun h2 => hf ⟨h, h2⟩
    rw [h] at hba
    (repeat' first | (with_reducible first | apply Tot.of (qaa rfl) | apply Tot.of (qag rfl) | apply Tot.of (qa0 rfl) | apply Tot.of (qax rfl) | apply Tot.of (qac rfl) | apply Tot.of (st_inr rfl) | apply Tot.gbl (b := true) | apply Tot.bql (b := true) | apply Tot.iff | apply Tot.iftt | apply Tot.ifft) | ((conv => arg 2; arg 1; simp (disch := first | omega | assumption) only [qa2, ifb_false, qap, qan, qai, qaj, qak, qaf, hixi, hixj, hlda, hba]); (with_reducible first | apply Tot.of (qaa rfl) | apply Tot.gbl (b := false) | apply Tot.bql (b := false) | (apply Tot.gtr_f; omega))))
    ((try conv => arg 2; simp (disch := first | omega | assumption) only [qai, qaj, qak]); refine Tot.ret ?_)
    exact ⟨S, rfl, hm, Pres.refl _ _ _⟩
  · simp only [Bool.not_eq_true] at h
    rw [h] at hba
    (repeat' first | (with_reducible first | apply Tot.of (qaa rfl) | apply Tot.of (qag rfl) | apply Tot.of (qa0 rfl) | apply Tot.of (qax rfl) | apply Tot.of (qac rfl) | apply Tot.of (st_inr rfl) | apply Tot.gbl (b := false) | apply Tot.bql (b := false) | apply Tot.iff | apply Tot.ifft) | ((conv => arg 2; arg 1; simp (disch := first | omega | assumption) only [ifb_false, qap, qan, qai, qaj, qak, qaf, hixi, hixj, hlda, hba]); (with_reducible first | apply Tot.of (qaa rfl) | apply Tot.gbl (b := false) | apply Tot.bql (b := false))))
    ((try conv => arg 2; simp (disch := first | omega | assumption) only [qai, qaj, qak]); refine Tot.ret ?_)
    exact ⟨S, rfl, hm, Pres.refl _ _ _⟩
theorem s27_row (ka ko N i j : Nat) (a : Mt) (src : Nat → Bool) (hN : N ≤ 1000) (hi : i < N) (hj : j < N) (ht : a i j = true) (hij : i < j) (hda : ka + N < ko) : ∀ (f k : Nat) (S : St) (m : Mt), k + f = N → Mat S ko N m → Mat S ka N a → (∀ t, m j t = src t) →
    Tot (InlM (Env.mk (sp [(0, .vsl ka 0 1 N), (2, .vsl ko 0 1 N), (0, .int .i64 (i : Nat)), (0, .int .i64 ((j : Int) + 1))] 85) []) S ko N (rowAdd src i f k m))
      (iterK (f27_s0 mL (Run Tryz.prog rxA) (Dcall Tryz.prog rxA)) (Env.mk (sp [(0, .vsl ka 0 1 N), (2, .vsl ko 0 1 N), (0, .int .i64 (i : Nat)), (0, .int .i64 (j : Nat)), (0, .int .i64 (k : Nat))] 84) []) S) := by
  intro f
  induction f with
  | zero =>
    intro k S m hk hm ha hs
    have hixi := fun q => ix_v (k := q) hi .i64
    have hixj := fun q => ix_v (k := q) hj .i64
    have hlda := ld_row ha hi
    have hba := ld_bit ha hi hj
    rw [ht] at hba
    refine Tot.iter ?_
    conv => arg 2; arg 1; unfold f27_s0
    (repeat' first | (with_reducible first | apply Tot.of (qaa rfl) | apply Tot.of (qag rfl) | apply Tot.of (qa0 rfl) | apply Tot.of (qax rfl) | apply Tot.of (qac rfl) | apply Tot.of (st_inr rfl) | apply Tot.gbl (b := true) | apply Tot.bql (b := true) | apply Tot.iff | apply Tot.iftt) | ((conv => arg 2; arg 1; simp (disch := first | omega | assumption) only [qa2, qap, qan, qai, qaj, qak, qaf, hixi, hixj, hlda, hba, lenV]); (with_reducible first | apply Tot.of (qaa rfl) | apply Tot.gbl (b := true) | apply Tot.bql (b := true) | apply Tot.bql (b := false) | (apply Tot.lss_f; omega) | (apply Tot.gtr_t; omega))))
    ((try conv => arg 2; simp (disch := first | omega | assumption) only [qai, qaj, qak]); refine Tot.ret ?_)
    exact ⟨S, rfl, hm, Pres.refl _ _ _⟩
  | succ f ih =>
    intro k S m hk hm ha hs
    have hlt : k < N := by omega
    have hixi := fun q => ix_v (k := q) hi .i64
    have hixj := fun q => ix_v (k := q) hj .i64
    have hixk := fun q => ix_v (k := q) hlt .i64
    have hlda := ld_row ha hi
    have hba := ld_bit ha hi hj
    rw [ht] at hba
    have hldi := ld_row hm hi
    have hldj := ld_row hm hj
    have hbi := ld_bit hm hi hlt
    have hbj := ld_bit hm hj hlt
    rw [hs] at hbj
    have hst := fun v => sto_bit hm hi hlt v
    have step := fun v => ih (k + 1) (wrM S ko N m i k v) _ (by omega) (wrM_mat hm hi v (j := k)) (ha.pres (wrM_pres hm hi v) (.inl hda)) (fun t => by unfold updM; rw [if_neg (by omega)]; exact hs t)
    have fin := fun v (hv : v = (m i k || src k)) => (step v).mono fun x h => InlM.of h (wrM_pres hm hi v) (show rowAdd src i f (k + 1) (updM m i k v) = rowAdd src i (f + 1) k m by rw [hv]; rfl)
    simp only [Int.natCast_add, Int.natCast_one] at fin
    refine Tot.iter ?_
    conv => arg 2; arg 1; unfold f27_s0
    by_cases hmij : m i k = true
    · rw [hmij] at hbi
      (repeat' first | (with_reducible first | apply Tot.of (qaa rfl) | apply Tot.of (qag rfl) | apply Tot.of (qax rfl) | apply Tot.of (qac rfl) | apply Tot.of (qaw rfl) | apply Tot.of (qay rfl) | apply Tot.of (st_guard rfl) | apply Tot.of (st_bngs rfl) | apply Tot.gbl (b := true) | apply Tot.bql (b := true) | apply Tot.ift | apply Tot.iftt | apply Tot.iftf) | ((conv => arg 2; arg 1; simp (disch := first | omega | assumption) only [qa2, qap, qan, qai, qaj, qak, qaf, hixi, hixj, hixk, hlda, hba, hldi, hbi, hst, lenV]); (with_reducible first | apply Tot.of (qaa rfl) | apply Tot.gbl (b := true) | apply Tot.bql (b := true) | (apply Tot.lss_t; omega) | (apply Tot.gtr_t; omega))))
      conv => arg 2; simp (disch := first | omega | assumption) only [qai, qaj, qak]
      exact fin true (by simp [hmij])
    · simp only [Bool.not_eq_true] at hmij
      rw [hmij] at hbi
      (repeat' first | (with_reducible first | apply Tot.of (qaa rfl) | apply Tot.of (qag rfl) | apply Tot.of (qax rfl) | apply Tot.of (qac rfl) | apply Tot.of (qaw rfl) | apply Tot.of (qay rfl) | apply Tot.of (st_guard rfl) | apply Tot.of (st_bngs rfl) | apply Tot.gbl (b := true) | apply Tot.gbl (b := false) | apply Tot.bql (b := true) | apply Tot.bql (b := false) | apply Tot.ift | apply Tot.iftt | apply Tot.ifff) | ((conv => arg 2; arg 1; simp (disch := first | omega | assumption) only [qa2, ifb_false, qap, qan, qai, qaj, qak, qaf, hixi, hixj, hixk, hlda, hba, hldi, hldj, hbi, hbj, hst, lenV]); (with_reducible first | apply Tot.of (qaa rfl) | apply Tot.gbl (b := true) | apply Tot.bql (b := true) | (apply Tot.lss_t; omega) | (apply Tot.gtr_t; omega))))
      conv => arg 2; simp (disch := first | omega | assumption) only [qai, qaj, qak]
      exact fin (src k) (by simp [hmij])
def againJ (N : Nat) (a : Mt) (i : Nat) : Nat → Nat → Mt → Mt
  | 0, _, m => m
  | f + 1, j, m => againJ N a i f (j + 1) (if a i j = true ∧ i < j then rowAdd (updM m i j (m i j || a i j) j) i (N - j) j (updM m i j (m i j || a i j)) else updM m i j (m i j || a i j))
theorem s27_mid (ka ko N i : Nat) (a : Mt) (hN : N ≤ 1000) (hi : i < N) (hda : ka + N < ko) : ∀ (f j : Nat) (S : St) (m : Mt), j + f = N → Mat S ko N m → Mat S ka N a →
    Tot (InlM (Env.mk (sp [(0, .vsl ka 0 1 N), (2, .vsl ko 0 1 N), (0, .int .i64 ((i : Int) - 1))] 86) []) S ko N (againJ N a i f j m))
      (iterK (f27_s1 mL (Run Tryz.prog rxA) (Dcall Tryz.prog rxA)) (Env.mk (sp [(0, .vsl ka 0 1 N), (2, .vsl ko 0 1 N), (0, .int .i64 (i : Nat)), (0, .int .i64 (j : Nat))] 85) []) S) := by
  intro f
  induction f with
  | zero =>
    intro j S m hj hm ha
    refine Tot.iter ?_
    conv => arg 2; arg 1; unfold f27_s1
    (repeat' first | (with_reducible first | apply Tot.of (qaa rfl) | apply Tot.of (qag rfl) | apply Tot.of (qa0 rfl) | apply Tot.of (qac rfl) | apply Tot.of (st_inr rfl) | apply Tot.bql (b := false) | apply Tot.iff) | ((conv => arg 2; arg 1; simp (disch := first | omega | assumption) only [binO_sub, qan, qai, qaj, qak, qaf, lenV]); (with_reducible first | apply Tot.of (qaa rfl) | (apply Tot.lss_f; omega))))
    ((try conv => arg 2; simp (disch := first | omega | assumption) only [qai, qaj, qak]); refine Tot.ret ?_)
    exact ⟨S, rfl, hm, Pres.refl _ _ _⟩
  | succ f ih =>
    intro j S m hj hm ha
    have hlt : j < N := by omega
    have hin : ∀ v, ∃ S', (iterK (f27_s0 mL (Run Tryz.prog rxA) (Dcall Tryz.prog rxA)) (Env.mk (sp [(0, .vsl ka 0 1 N), (2, .vsl ko 0 1 N), (0, .int .i64 (i : Nat)), (0, .int .i64 (j : Nat)), (0, .int .i64 (j : Nat))] 84) []) (wrM S ko N m i j v)) =
        some (Sum.inl (Env.mk (sp [(0, .vsl ka 0 1 N), (2, .vsl ko 0 1 N), (0, .int .i64 (i : Nat)), (0, .int .i64 ((j : Int) + 1))] 85) [], S')) ∧
        Mat S' ko N (if a i j = true ∧ i < j then rowAdd (updM m i j v j) i (N - j) j (updM m i j v) else updM m i j v) ∧ Pres S S' ko N := by
      intro v
      have hm' := wrM_mat hm hi v (j := j)
      have hp := wrM_pres (j := j) hm hi v
      have ha' := ha.pres hp (.inl hda)
      by_cases hc : a i j = true ∧ i < j
      · rw [if_pos hc]
        obtain ⟨_, h1, S', rfl, h2, h3⟩ := s27_row ka ko N i j a (updM m i j v j) hN hi hlt hc.1 hc.2 hda (N - j) j _ _ (by omega) hm' ha' (fun t => rfl)
        exact ⟨S', h1, h2, hp.trans h3⟩
      · rw [if_neg hc]
        obtain ⟨_, h1, S', rfl, h2, h3⟩ := s27_no ka ko N i j j a hN hi hlt hc _ _ hm' ha'
        exact ⟨S', h1, h2, hp.trans h3⟩
    have hixi := fun q => ix_v (k := q) hi .i64
    have hixj := fun q => ix_v (k := q) hlt .i64
    have hlda := ld_row ha hi
    have hba := ld_bit ha hi hlt
    have hldi := ld_row hm hi
    have hbi := ld_bit hm hi hlt
    have hst := fun v => sto_bit hm hi hlt v
    have key : ∀ v, v = (m i j || a i j) → ∃ S', (iterK (f27_s0 mL (Run Tryz.prog rxA) (Dcall Tryz.prog rxA)) (Env.mk (sp [(0, .vsl ka 0 1 N), (2, .vsl ko 0 1 N), (0, .int .i64 (i : Nat)), (0, .int .i64 (j : Nat)), (0, .int .i64 (j : Nat))] 84) []) (wrM S ko N m i j v)) =
        some (Sum.inl (Env.mk (sp [(0, .vsl ka 0 1 N), (2, .vsl ko 0 1 N), (0, .int .i64 (i : Nat)), (0, .int .i64 ((j : Int) + 1))] 85) [], S')) ∧
        Tot (InlM (Env.mk (sp [(0, .vsl ka 0 1 N), (2, .vsl ko 0 1 N), (0, .int .i64 ((i : Int) - 1))] 86) []) S ko N (againJ N a i (f + 1) j m))
          (iterK (f27_s1 mL (Run Tryz.prog rxA) (Dcall Tryz.prog rxA)) (Env.mk (sp [(0, .vsl ka 0 1 N), (2, .vsl ko 0 1 N), (0, .int .i64 (i : Nat)), (0, .int .i64 ((j : Int) + 1))] 85) []) S') := by
      intro v hv
      obtain ⟨S', h1, h2, h3⟩ := hin v
      refine ⟨S', h1, ?_⟩
      have := ih (j + 1) S' _ (by omega) h2 (ha.pres h3 (.inl hda))
      rw [Int.natCast_add, Int.natCast_one] at this
      exact this.mono fun x h => InlM.of h h3 (by subst hv; rfl)
    refine Tot.iter ?_
    conv => arg 2; arg 1; unfold f27_s1
    by_cases hmij : m i j = true
    · rw [hmij] at hbi
      obtain ⟨S', h1, h2⟩ := key true (by simp [hmij])
      (repeat' first | (with_reducible first | apply Tot.of (qaa rfl) | apply Tot.of (qag rfl) | apply Tot.of (qax rfl) | apply Tot.of (qac rfl) | apply Tot.of (qaw rfl) | apply Tot.of (qay rfl) | apply Tot.of (st_guard rfl) | apply Tot.of (st_bngs rfl) | apply Tot.of (st_bnit rfl) | apply Tot.gbl (b := true) | apply Tot.bql (b := true) | apply Tot.ift | apply Tot.iftf) | ((conv => arg 2; arg 1; simp (disch := first | omega | assumption) only [qa2, qai, qaj, qak, hixi, hixj, hldi, hbi, hst, lenV, h1]); (with_reducible first | apply Tot.of (qaa rfl) | (apply Tot.lss_t; omega))))
      conv => arg 2; simp (disch := first | omega | assumption) only []
      exact h2
    · simp only [Bool.not_eq_true] at hmij
      rw [hmij] at hbi
      obtain ⟨S', h1, h2⟩ := key (a i j) (by simp [hmij])
      (repeat' first | (with_reducible first | apply Tot.of (qaa rfl) | apply Tot.of (qag rfl) | apply Tot.of (qax rfl) | apply Tot.of (qac rfl) | apply Tot.of (qaw rfl) | apply Tot.of (qay rfl) | apply Tot.of (st_guard rfl) | apply Tot.of (st_bngs rfl) | apply Tot.of (st_bnit rfl) | apply Tot.gbl (b := false) | apply Tot.bql (b := true) | apply Tot.bql (b := false) | apply Tot.ift | apply Tot.ifff) | ((conv => arg 2; arg 1; simp (disch := first | omega | assumption) only [ifb_false, qai, qaj, qak, hixi, hixj, hlda, hba, hldi, hbi, hst, lenV, h1]); (with_reducible first | apply Tot.of (qaa rfl) | (apply Tot.lss_t; omega))))
      conv => arg 2; simp (disch := first | omega | assumption) only []
      exact h2
def againI (N : Nat) (a : Mt) : Nat → Mt → Mt
  | 0, m => m
  | f + 1, m => againI N a f (againJ N a f (N - f) f m)
theorem s27_loop (A : St) (ka ko N : Nat) (a : Mt) (hN : N ≤ 1000) (hda : ka + N < ko) : ∀ (f : Nat) (x : Int) (S : St) (m : Mt), f ≤ N → x = (f : Int) - 1 → Mat S ko N m → Mat S ka N a →
    Tot (OldM S ko N (againI N a f m)) (iterK (f27_s2 mL (Run Tryz.prog rxA) (Dcall Tryz.prog rxA) A) (Env.mk (sp [(0, .vsl ka 0 1 N), (2, .vsl ko 0 1 N), (0, .int .i64 x)] 86) []) S) := by
  intro f
  induction f with
  | zero =>
    intro x S m hf hx hm ha
    refine Tot.iter ?_
    conv => arg 2; arg 1; unfold f27_s2
    (repeat' first | (with_reducible first | apply Tot.of (qag rfl) | apply Tot.of (qa0 rfl) | apply Tot.of (qac rfl) | apply Tot.of (st_inr rfl) | apply Tot.of (qas rfl) | apply Tot.bql (b := false) | apply Tot.iff) | ((conv => arg 2; arg 1; simp (disch := first | omega | assumption) only [Option.map_some, leave_keep, qaq, qai, qaj, qak, qaf]); (with_reducible first | apply Tot.of (qaa rfl) | (apply Tot.geq_f; omega))))
    ((try conv => arg 2; simp (disch := first | omega | assumption) only []); refine Tot.ret ?_)
    exact ⟨S, rfl, hm, Pres.refl _ _ _⟩
  | succ f ih =>
    intro x S m hf hx hm ha
    have hx : x = (f : Nat) := by omega
    subst hx
    obtain ⟨_, h1, S', rfl, h2, h3⟩ := s27_mid ka ko N f a hN (by omega) hda (N - f) f S m (by omega) hm ha
    have := ih _ S' _ (by omega) rfl h2 (ha.pres h3 (.inl hda))
    refine Tot.iter ?_
    conv => arg 2; arg 1; unfold f27_s2
    (repeat' first | (with_reducible first | apply Tot.of (qag rfl) | apply Tot.of (qac rfl) | apply Tot.of (qay rfl) | apply Tot.of (st_bnit rfl) | apply Tot.bql (b := true) | apply Tot.ift) | ((conv => arg 2; arg 1; simp (disch := first | omega | assumption) only [qai, qaj, qak, qaf, h1]); (with_reducible first | apply Tot.of (qaa rfl) | (apply Tot.geq_t; omega))))
    conv => arg 2; simp (disch := first | omega | assumption) only []
    exact this.mono fun x ⟨T, h4, h5, h6⟩ => ⟨T, h4, h5, h3.trans h6⟩
theorem s27_ (S : St) (ka n : Nat) (a : Mt) (hN : n ≤ 999) (ha : Mat S ka (n + 1) a) :
    Tot (NewM S (n + 1) (againI (n + 1) a (n + 1) fun _ _ => false)) (f27 mL (Run Tryz.prog rxA) (Dcall Tryz.prog rxA) (.vsl ka 0 1 (n + 1)) S) := by
  obtain ⟨T, h1, h2, h3⟩ := NewM.get (s22 S n hN)
  obtain ⟨T', g1, g2, g3⟩ := OldM.get (s27_loop S ka S.length (n + 1) a (by omega) ha.lt (n + 1) ((n : Int) + 1 - 1) T _ (by omega) (by omega) h2 (ha.keeps h3))
  have e : ((n : Int) + 1 - 1) = (n : Nat) := by omega
  rw [← e] at h1
  unfold f27
  refine Tot.mono (P := fun x => x = (.ret (.vsl S.length 0 1 (n + 1)), T')) ?_ fun x hx => ⟨T', hx, g2, h3.pres g3 (Nat.le_refl _)⟩
  (repeat' first | (with_reducible first | apply Tot.of (qa3 rfl) | apply Tot.of (st_it rfl)) | ((conv => arg 2; arg 1; simp (disch := first | omega | assumption) only [binO_sub, qan, qaf, qam, r22, h1, lenV, Int.natCast_add, Int.natCast_one]); (with_reducible first | apply Tot.of (qaa rfl))))
  (refine Tot.of_eq ?_; (conv => lhs; simp (disch := first | omega | assumption) only []); exact g1)
end Go.Vm.Rx
