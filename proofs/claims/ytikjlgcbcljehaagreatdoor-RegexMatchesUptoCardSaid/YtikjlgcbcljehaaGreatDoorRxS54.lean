/- RxS53, RxS54 in one text. -/
import Derived.Test.YtikjlgcbcljehaaGreatDoorRxS46
import Derived.Test.YtikjlgcbcljehaaGreatDoorVmTab
set_option linter.all false
/- The reference's tables: table, either. -/
namespace Go.Vm.Rx
open Go Go.Proofs P
set_option linter.unusedVariables false
set_option linter.unusedSimpArgs false
set_option linter.unusedSectionVars false
set_option maxRecDepth 10000
set_option maxHeartbeats 4000000
/-- a new table behind a store -/
def NewT (A : St) (N : Nat) (m : Mt) (x : Res × St) : Prop := ∃ S, x = (.ret (tabD A.length N N), S) ∧ Tab S A.length N m ∧ KeepS A S
theorem NewT.get {A : St} {N : Nat} {m : Mt} {x : ORes} (h : Tot (NewT A N m) x) : ∃ S, x = some (.ret (tabD A.length N N), S) ∧ Tab S A.length N m ∧ KeepS A S := by
  obtain ⟨_, h1, S, rfl, h2, h3⟩ := h
  exact ⟨S, h1, h2, h3⟩
def InlT {β : Type} (e : Env) (S : St) (k N : Nat) (m : Mt) (x : (Env × St) ⊕ β) : Prop := ∃ S', x = Sum.inl (e, S') ∧ Tab S' k N m ∧ Pres S S' k N
theorem InlT.of {β : Type} {e : Env} {S T : St} {k N : Nat} {m m' : Mt} {x : (Env × St) ⊕ β} (h : InlT e T k N m x) (p : Pres S T k N) (he : m = m') : InlT e S k N m' x := by
  obtain ⟨S', h1, h2, h3⟩ := h
  exact ⟨S', h1, he ▸ h2, p.trans h3⟩
/-- a table whose values were laid in place -/
def OldT (S : St) (k N : Nat) (m : Mt) (x : Res × St) : Prop := ∃ S', x = (.ret (tabD k N N), S') ∧ Tab S' k N m ∧ Pres S S' k N
theorem OldT.get {S : St} {k N : Nat} {m : Mt} {x : ORes} (h : Tot (OldT S k N m) x) : ∃ S', x = some (.ret (tabD k N N), S') ∧ Tab S' k N m ∧ Pres S S' k N := by
  obtain ⟨_, h1, S, rfl, h2, h3⟩ := h
  exact ⟨S, h1, h2, h3⟩
theorem tok_tab (c N i : Nat) (A : St) : tokO [(0, 1)] (tabD c N i) A = some (tabD c N i, A) := rfl
theorem matRow_len (k N : Nat) : (matRow k N).length = N := by simp [matRow]
theorem tabD_ix {k N i : Nat} (h : i < N) (kd : IntKind) : indexAddrO 1 false (tabD k N N) (.int kd (i : Int)) = some (.peek [.vsl (k + 1 + i) 0 1 N]) := tb_ix h _ kd
theorem tabD_canon {k N : Nat} (h : 0 < N) : (tabD k N N).canon = .sl .sh 1 (matRow k N) := tb_canon h _
theorem s31_loop (A : St) (n N : Nat) (hn : N = n + 1) (hN : N ≤ 1000) : ∀ (f i : Nat), i + f = N →
    iterK (f31_s0 mL (Run Tryz.prog rxA) (Dcall Tryz.prog rxA) A) (Env.mk (sp [(0, .int .i64 (n : Nat)), (2, tabD A.length N i), (0, .int .i64 (i : Nat))] 12) []) (tabP A N i) = some (.ret (tabD A.length N N), tabP A N N) := by
  intro f
  induction f with
  | zero =>
    intro i hi
    have : i = N := by omega
    subst this
    refine Tot.eq (Tot.iter ?_)
    conv => arg 2; arg 1; unfold f31_s0
    (repeat' first | (with_reducible first | apply Tot.of (qag rfl) | apply Tot.of (qa0 rfl) | apply Tot.of (qac rfl) | apply Tot.of (st_inr rfl) | apply Tot.of (qas rfl) | apply Tot.bql (b := false) | apply Tot.iff) | ((conv => arg 2; arg 1; simp (disch := first | omega | assumption) only [Option.map_some, leave_keep, qaq, qai, qaj, qak]); (with_reducible first | apply Tot.of (qaa rfl) | (apply Tot.leq_f; omega))))
    ((try conv => arg 2; simp (disch := first | omega | assumption) only []); refine Tot.ret ?_)
    rfl
  | succ f ih =>
    intro i hi
    have hlt : i < N := by omega
    have hmk := make_v (n := 1) (b := 1) (N := N) (zc := [.bool false]) (A := tabP A N i) (by omega) (by omega) (by omega) rfl
    rw [hn, Int.natCast_add, Int.natCast_one] at hmk
    rw [← hn] at hmk
    have hsp : ∀ q, sliceParts 1 false 0 [(0, .vsl q 0 1 N)] = some [.vsl q 0 1 N] := fun _ => rfl
    have hap := tabP_next (A := A) (N := N) (i := i) (by omega)
    refine Tot.eq (Tot.iter ?_)
    conv => arg 2; arg 1; unfold f31_s0
    (repeat' first | (with_reducible first | apply Tot.of (qaa rfl) | apply Tot.of (qag rfl) | apply Tot.of (qa0 rfl) | apply Tot.of (qax rfl) | apply Tot.of (qac rfl) | apply Tot.of (qay rfl) | apply Tot.bql (b := true) | apply Tot.ift) | ((conv => arg 2; arg 1; simp (disch := first | omega | assumption) only [qap, qan, qai, qaj, qak, qaf, hmk, hsp, hap, tok_tab]); (with_reducible first | apply Tot.of (qaa rfl) | (apply Tot.leq_t; omega))))
    (refine Tot.of_eq ?_; (conv => lhs; simp (disch := first | omega | assumption) only [qai]); have := ih (i + 1) (by omega); rw [Int.natCast_add, Int.natCast_one] at this; exact this)
theorem s31 (A : St) (n : Nat) (hn : n ≤ 999) : Tot (NewT A (n + 1) fun _ _ => false) (f31 mL (Run Tryz.prog rxA) (Dcall Tryz.prog rxA) (.int .i64 (n : Nat)) A) := by
  have hlo := s31_loop A n (n + 1) rfl (by omega) (n + 1) 0 (by omega)
  rw [Int.natCast_zero] at hlo
  have htk : tokO [(0, 1)] (.sl .full 0 []) A = some (tabD A.length (n + 1) 0, tabP A (n + 1) 0) := by
    rw [tok_nil 0 1 0 A (by omega), tabP_0, tabD_0]
  unfold f31
  refine Tot.mono (P := fun x => x = (.ret (tabD A.length (n + 1) (n + 1)), tabP A (n + 1) (n + 1))) ?_ fun x hx => ⟨_, hx, tab_all _ _, tabP_keeps _ _ _⟩
  (repeat' first | (with_reducible first | apply Tot.of (st_it rfl)) | ((conv => arg 2; arg 1; simp (disch := first | omega | assumption) only [htk]); (with_reducible first | apply Tot.of (qaa rfl))))
  (refine Tot.of_eq ?_; (conv => lhs; simp (disch := first | omega | assumption) only [qaf]); exact hlo)
/-! either -/
def rowSet (src : Nat → Bool) (i : Nat) : Nat → Nat → Mt → Mt
  | 0, _, m => m
  | f + 1, j, m => rowSet src i f (j + 1) (updM m i j (src j))
theorem rowSet_get (src : Nat → Bool) (i : Nat) : ∀ (f j : Nat) (m : Mt) (i' j' : Nat), rowSet src i f j m i' j' = if i' = i ∧ j ≤ j' ∧ j' < j + f then src j' else m i' j'
  | 0, j, m, i', j' => by
    unfold rowSet
    rw [if_neg (by omega)]
  | f + 1, j, m, i', j' => by
    unfold rowSet
    rw [rowSet_get src i f (j + 1)]
    unfold updM
    by_cases h : i' = i ∧ j' = j
    · obtain ⟨rfl, rfl⟩ := h
      rw [if_neg (by omega), if_pos ⟨rfl, rfl⟩, if_pos (by omega)]
    · by_cases h2 : i' = i ∧ j + 1 ≤ j' ∧ j' < j + 1 + f
      · rw [if_pos h2, if_pos (by omega)]
      · rw [if_neg h2, if_neg h, if_neg (by omega)]
theorem s34_row (ka kb ko N i : Nat) (a b : Mt) (hN : N ≤ 1000) (hi : i < N) (hda : ka + N < ko) (hdb : kb + N < ko) : ∀ (f j : Nat) (S : St) (m : Mt), j + f = N → Tab S ko N m → Tab S ka N a → Tab S kb N b →
    Tot (InlT (Env.mk (sp [(0, .sl .sh 1 (matRow ka N)), (0, .sl .sh 1 (matRow kb N)), (3, tabD ko N N), (0, .int .i64 ((i : Int) + 1))] 40) []) S ko N (rowSet (fun j => a i j || b i j) i f j m))
      (iterK (f34_s0 mL (Run Tryz.prog rxA) (Dcall Tryz.prog rxA)) (Env.mk (sp [(0, .sl .sh 1 (matRow ka N)), (0, .sl .sh 1 (matRow kb N)), (3, tabD ko N N), (0, .int .i64 (i : Nat)), (0, .int .i64 (j : Nat))] 39) []) S) := by
  intro f
  induction f with
  | zero =>
    intro j S m hj hm ha hb
    refine Tot.iter ?_
    conv => arg 2; arg 1; unfold f34_s0
    (repeat' first | (with_reducible first | apply Tot.of (qaa rfl) | apply Tot.of (qag rfl) | apply Tot.of (qa0 rfl) | apply Tot.of (qac rfl) | apply Tot.of (st_inr rfl) | apply Tot.bql (b := false) | apply Tot.iff) | ((conv => arg 2; arg 1; simp (disch := first | omega | assumption) only [qap, qan, lenSl_sl, qai, qaj, qak, qaf, matRow_len]); (with_reducible first | apply Tot.of (qaa rfl) | (apply Tot.lss_f; omega))))
    ((try conv => arg 2; simp (disch := first | omega | assumption) only [qai, qaj, qak]); refine Tot.ret ?_)
    exact ⟨S, rfl, hm, Pres.refl _ _ _⟩
  | succ f ih =>
    intro j S m hj hm ha hb
    have hlt : j < N := by omega
    have hxa := tb_ix (k := ka) hi .sh .i64
    have hxb := tb_ix (k := kb) hi .sh .i64
    have hxo := tabD_ix (k := ko) hi .i64
    have hixj := fun q => ix_v (k := q) hlt .i64
    have hba := tb_bit ha hi hlt
    have hbb := tb_bit hb hi hlt
    have hst := fun v => tb_sto hm hi hlt v
    have step := fun v => ih (j + 1) (wrM S ko N m i j v) _ (by omega) (tb_wr hm hi v (j := j)) (ha.pres (tb_wrp hi v) (.inl hda)) (hb.pres (tb_wrp hi v) (.inl hdb))
    have fin := fun v (hv : v = (a i j || b i j)) => (step v).mono fun x h => InlT.of h (tb_wrp hi v) (show rowSet (fun j => a i j || b i j) i f (j + 1) (updM m i j v) = rowSet (fun j => a i j || b i j) i (f + 1) j m by rw [hv]; rfl)
    simp only [Int.natCast_add, Int.natCast_one] at fin
    refine Tot.iter ?_
    conv => arg 2; arg 1; unfold f34_s0
    by_cases hmij : a i j = true
    · rw [hmij] at hba
      (repeat' first | (with_reducible first | apply Tot.of (qaa rfl) | apply Tot.of (qag rfl) | apply Tot.of (qax rfl) | apply Tot.of (qac rfl) | apply Tot.of (qaw rfl) | apply Tot.of (qay rfl) | apply Tot.of (st_guard rfl) | apply Tot.of (st_bngs rfl) | apply Tot.gbl (b := true) | apply Tot.bql (b := true) | apply Tot.ift | apply Tot.iftf) | ((conv => arg 2; arg 1; simp (disch := first | omega | assumption) only [qa2, qap, qan, lenSl_sl, qau, qao, qai, qaj, qak, qaf, matRow_len, hxa, hxo, hixj, hba, hst]); (with_reducible first | apply Tot.of (qaa rfl) | (apply Tot.lss_t; omega))))
      conv => arg 2; simp (disch := first | omega | assumption) only [qai, qaj, qak]
      exact fin true (by simp [hmij])
    · simp only [Bool.not_eq_true] at hmij
      rw [hmij] at hba
      (repeat' first | (with_reducible first | apply Tot.of (qaa rfl) | apply Tot.of (qag rfl) | apply Tot.of (qax rfl) | apply Tot.of (qac rfl) | apply Tot.of (qaw rfl) | apply Tot.of (qay rfl) | apply Tot.of (st_guard rfl) | apply Tot.of (st_bngs rfl) | apply Tot.gbl (b := false) | apply Tot.bql (b := true) | apply Tot.bql (b := false) | apply Tot.ift | apply Tot.ifff) | ((conv => arg 2; arg 1; simp (disch := first | omega | assumption) only [ifb_false, qap, qan, lenSl_sl, qau, qao, qai, qaj, qak, qaf, matRow_len, hxa, hxb, hxo, hixj, hba, hbb, hst]); (with_reducible first | apply Tot.of (qaa rfl) | (apply Tot.lss_t; omega))))
      conv => arg 2; simp (disch := first | omega | assumption) only [qai, qaj, qak]
      exact fin (b i j) (by simp [hmij])
def eiI (a b : Mt) (N : Nat) : Nat → Nat → Mt → Mt
  | 0, _, m => m
  | f + 1, i, m => eiI a b N f (i + 1) (rowSet (fun j => a i j || b i j) i N 0 m)
theorem eiI_get (a b : Mt) (N : Nat) : ∀ (f i : Nat) (m : Mt) (i' j' : Nat), j' < N → eiI a b N f i m i' j' = if i ≤ i' ∧ i' < i + f then (a i' j' || b i' j') else m i' j'
  | 0, i, m, i', j', h => by
    unfold eiI
    rw [if_neg (by omega)]
  | f + 1, i, m, i', j', h => by
    unfold eiI
    rw [eiI_get a b N f (i + 1) _ i' j' h, rowSet_get]
    by_cases h1 : i' = i
    · subst h1
      rw [if_neg (by omega), if_pos (by omega), if_pos (by omega)]
    · by_cases h2 : i + 1 ≤ i' ∧ i' < i + 1 + f
      · rw [if_pos h2, if_pos (by omega)]
      · rw [if_neg h2, if_neg (by omega), if_neg (by omega)]
theorem s34_loop (A : St) (ka kb ko N : Nat) (a b : Mt) (hN : N ≤ 1000) (hda : ka + N < ko) (hdb : kb + N < ko) : ∀ (f i : Nat) (S : St) (m : Mt), i + f = N → Tab S ko N m → Tab S ka N a → Tab S kb N b →
    Tot (OldT S ko N (eiI a b N f i m)) (iterK (f34_s1 mL (Run Tryz.prog rxA) (Dcall Tryz.prog rxA) A) (Env.mk (sp [(0, .sl .sh 1 (matRow ka N)), (0, .sl .sh 1 (matRow kb N)), (3, tabD ko N N), (0, .int .i64 (i : Nat))] 40) []) S) := by
  intro f
  induction f with
  | zero =>
    intro i S m hi hm ha hb
    refine Tot.iter ?_
    conv => arg 2; arg 1; unfold f34_s1
    (repeat' first | (with_reducible first | apply Tot.of (qag rfl) | apply Tot.of (qa0 rfl) | apply Tot.of (qac rfl) | apply Tot.of (st_inr rfl) | apply Tot.of (qas rfl) | apply Tot.bql (b := false) | apply Tot.iff) | ((conv => arg 2; arg 1; simp (disch := first | omega | assumption) only [Option.map_some, leave_keep, qaq, lenSl_sl, qai, qaj, qak, matRow_len]); (with_reducible first | apply Tot.of (qaa rfl) | (apply Tot.lss_f; omega))))
    ((try conv => arg 2; simp (disch := first | omega | assumption) only []); refine Tot.ret ?_)
    exact ⟨S, rfl, hm, Pres.refl _ _ _⟩
  | succ f ih =>
    intro i S m hi hm ha hb
    have hlt : i < N := by omega
    obtain ⟨_, hq, S', rfl, h2, h3⟩ := s34_row ka kb ko N i a b hN hlt hda hdb N 0 S m (by omega) hm ha hb
    rw [Int.natCast_zero] at hq
    have := ih (i + 1) S' _ (by omega) h2 (ha.pres h3 (.inl hda)) (hb.pres h3 (.inl hdb))
    rw [Int.natCast_add, Int.natCast_one] at this
    refine Tot.iter ?_
    conv => arg 2; arg 1; unfold f34_s1
    (repeat' first | (with_reducible first | apply Tot.of (qag rfl) | apply Tot.of (qac rfl) | apply Tot.of (qay rfl) | apply Tot.of (st_bnit rfl) | apply Tot.bql (b := true) | apply Tot.ift) | ((conv => arg 2; arg 1; simp (disch := first | omega | assumption) only [lenSl_sl, qai, qaj, qak, qaf, matRow_len, hq]); (with_reducible first | apply Tot.of (qaa rfl) | (apply Tot.lss_t; omega))))
    conv => arg 2; simp (disch := first | omega | assumption) only []
    exact this.mono fun x ⟨T, h4, h5, h6⟩ => ⟨T, h4, h5, h3.trans h6⟩
theorem s34 (S : St) (ka kb n : Nat) (a b : Mt) (hN : n ≤ 999) (ha : Tab S ka (n + 1) a) (hb : Tab S kb (n + 1) b) :
    Tot (NewT S (n + 1) (orM a b)) (f34 mL (Run Tryz.prog rxA) (Dcall Tryz.prog rxA) (.sl .sh 1 (matRow ka (n + 1))) (.sl .sh 1 (matRow kb (n + 1))) S) := by
  obtain ⟨T, h1, h2, h3⟩ := NewT.get (s31 S n hN)
  obtain ⟨T', g1, g2, g3⟩ := OldT.get (s34_loop S ka kb S.length (n + 1) a b (by omega) ha.lt hb.lt (n + 1) 0 T _ (by omega) h2 (ha.keeps h3) (hb.keeps h3))
  rw [Int.natCast_zero] at g1
  have e : ((n : Int) + 1 - 1) = (n : Nat) := by omega
  rw [← e] at h1
  unfold f34
  refine Tot.mono (P := fun x => x = (.ret (tabD S.length (n + 1) (n + 1)), T')) ?_ fun x hx => ⟨T', hx, g2.congr fun i j hi hj => ?_, h3.pres g3 (Nat.le_refl _)⟩
  · (repeat' first | (with_reducible first | apply Tot.of (qa3 rfl) | apply Tot.of (st_it rfl)) | ((conv => arg 2; arg 1; simp (disch := first | omega | assumption) only [binO_sub, qan, lenSl_sl, qaf, qam, matRow_len, Int.natCast_add, Int.natCast_one, r31, h1]); (with_reducible first | apply Tot.of (qaa rfl))))
    (refine Tot.of_eq ?_; (conv => lhs; simp (disch := first | omega | assumption) only [qaf]); exact g1)
  · rw [eiI_get _ _ _ _ _ _ _ _ hj, if_pos (by omega)]
    rfl
end Go.Vm.Rx

/- The reference's tables: chained. -/
namespace Go.Vm.Rx
open Go Go.Proofs P
set_option linter.unusedVariables false
set_option linter.unusedSimpArgs false
set_option linter.unusedSectionVars false
set_option maxRecDepth 10000
set_option maxHeartbeats 4000000
theorem s33_no (ka kb ko N i k j : Nat) (a : Mt) (hN : N ≤ 1000) (hi : i < N) (hk : k < N) (hj : j < N) (hf : a i k = false) (S : St) (m : Mt) (hm : Tab S ko N m) (ha : Tab S ka N a) :
    Tot (InlT (Env.mk (sp [(0, .sl .sh 1 (matRow ka N)), (0, .sl .sh 1 (matRow kb N)), (3, tabD ko N N), (0, .int .i64 (i : Nat)), (0, .int .i64 ((k : Int) + 1))] 55) []) S ko N m)
      (iterK (f33_s0 mL (Run Tryz.prog rxA) (Dcall Tryz.prog rxA)) (Env.mk (sp [(0, .sl .sh 1 (matRow ka N)), (0, .sl .sh 1 (matRow kb N)), (3, tabD ko N N), (0, .int .i64 (i : Nat)), (0, .int .i64 (k : Nat)), (0, .int .i64 (j : Nat))] 54) []) S) := by
  have hxa := tb_ix (k := ka) hi .sh .i64
  have hixk := fun q => ix_v (k := q) hk .i64
  have hba := tb_bit ha hi hk
  rw [hf] at hba
  refine Tot.iter ?_
  conv => arg 2; arg 1; unfold f33_s0
  (repeat' first | (with_reducible first | apply Tot.of (qaa rfl) | apply Tot.of (qag rfl) | apply Tot.of (qa0 rfl) | apply Tot.of (qax rfl) | apply Tot.of (qac rfl) | apply Tot.of (st_inr rfl) | apply Tot.gbl (b := true) | apply Tot.bql (b := true) | apply Tot.iff | apply Tot.iftt) | ((conv => arg 2; arg 1; simp (disch := first | omega | assumption) only [qa2, qap, qan, lenSl_sl, qau, qao, qai, qaj, qak, qaf, matRow_len, hxa, hixk, hba]); (with_reducible first | apply Tot.of (qaa rfl) | apply Tot.bql (b := false) | (apply Tot.lss_t; omega))))
  ((try conv => arg 2; simp (disch := first | omega | assumption) only [qai, qaj, qak]); refine Tot.ret ?_)
  exact ⟨S, rfl, hm, Pres.refl _ _ _⟩
theorem s33_row (ka kb ko N i k : Nat) (a b : Mt) (hN : N ≤ 1000) (hi : i < N) (hk : k < N) (ht : a i k = true) (hda : ka + N < ko) (hdb : kb + N < ko) : ∀ (f j : Nat) (S : St) (m : Mt), j + f = N → Tab S ko N m → Tab S ka N a → Tab S kb N b →
    Tot (InlT (Env.mk (sp [(0, .sl .sh 1 (matRow ka N)), (0, .sl .sh 1 (matRow kb N)), (3, tabD ko N N), (0, .int .i64 (i : Nat)), (0, .int .i64 ((k : Int) + 1))] 55) []) S ko N (rowAdd (b k) i f j m))
      (iterK (f33_s0 mL (Run Tryz.prog rxA) (Dcall Tryz.prog rxA)) (Env.mk (sp [(0, .sl .sh 1 (matRow ka N)), (0, .sl .sh 1 (matRow kb N)), (3, tabD ko N N), (0, .int .i64 (i : Nat)), (0, .int .i64 (k : Nat)), (0, .int .i64 (j : Nat))] 54) []) S) := by
  intro f
  induction f with
  | zero =>
    intro j S m hj hm ha hb
    refine Tot.iter ?_
    conv => arg 2; arg 1; unfold f33_s0
    (repeat' first | (with_reducible first | apply Tot.of (qaa rfl) | apply Tot.of (qag rfl) | apply Tot.of (qa0 rfl) | apply Tot.of (qax rfl) | apply Tot.of (qac rfl) | apply Tot.of (st_inr rfl) | apply Tot.gbl (b := false) | apply Tot.bql (b := false) | apply Tot.iff | apply Tot.ifft) | ((conv => arg 2; arg 1; simp (disch := first | omega | assumption) only [ifb_false, qap, qan, lenSl_sl, qai, qaj, qak, qaf, matRow_len]); (with_reducible first | apply Tot.of (qaa rfl) | apply Tot.bql (b := false) | (apply Tot.lss_f; omega))))
    ((try conv => arg 2; simp (disch := first | omega | assumption) only [qai, qaj, qak]); refine Tot.ret ?_)
    exact ⟨S, rfl, hm, Pres.refl _ _ _⟩
  | succ f ih =>
    intro j S m hj hm ha hb
    have hlt : j < N := by omega
    have hxa := tb_ix (k := ka) hi .sh .i64
    have hxb := tb_ix (k := kb) hk .sh .i64
    have hxo := tabD_ix (k := ko) hi .i64
    have hixk := fun q => ix_v (k := q) hk .i64
    have hixj := fun q => ix_v (k := q) hlt .i64
    have hba := tb_bit ha hi hk
    rw [ht] at hba
    have hbb := tb_bit hb hk hlt
    have hbo := tb_bit hm hi hlt
    have hst := fun v => tb_sto hm hi hlt v
    have step := fun v => ih (j + 1) (wrM S ko N m i j v) _ (by omega) (tb_wr hm hi v (j := j)) (ha.pres (tb_wrp hi v) (.inl hda)) (hb.pres (tb_wrp hi v) (.inl hdb))
    have fin := fun v (hv : v = (m i j || b k j)) => (step v).mono fun x h => InlT.of h (tb_wrp hi v) (show rowAdd (b k) i f (j + 1) (updM m i j v) = rowAdd (b k) i (f + 1) j m by rw [hv]; rfl)
    simp only [Int.natCast_add, Int.natCast_one] at fin
    refine Tot.iter ?_
    conv => arg 2; arg 1; unfold f33_s0
    by_cases hmij : m i j = true
    · rw [hmij] at hbo
      (repeat' first | (with_reducible first | apply Tot.of (qaa rfl) | apply Tot.of (qag rfl) | apply Tot.of (qax rfl) | apply Tot.of (qac rfl) | apply Tot.of (qaw rfl) | apply Tot.of (qay rfl) | apply Tot.of (st_guard rfl) | apply Tot.of (st_bngs rfl) | apply Tot.gbl (b := true) | apply Tot.bql (b := true) | apply Tot.ift | apply Tot.iftt | apply Tot.iftf) | ((conv => arg 2; arg 1; simp (disch := first | omega | assumption) only [qa2, qap, qan, lenSl_sl, qau, qao, qai, qaj, qak, qaf, matRow_len, hxa, hxo, hixk, hixj, hba, hbo, hst]); (with_reducible first | apply Tot.of (qaa rfl) | apply Tot.bql (b := true) | (apply Tot.lss_t; omega))))
      conv => arg 2; simp (disch := first | omega | assumption) only [qai, qaj, qak]
      exact fin true (by simp [hmij])
    · simp only [Bool.not_eq_true] at hmij
      rw [hmij] at hbo
      (repeat' first | (with_reducible first | apply Tot.of (qaa rfl) | apply Tot.of (qag rfl) | apply Tot.of (qax rfl) | apply Tot.of (qac rfl) | apply Tot.of (qaw rfl) | apply Tot.of (qay rfl) | apply Tot.of (st_guard rfl) | apply Tot.of (st_bngs rfl) | apply Tot.gbl (b := true) | apply Tot.gbl (b := false) | apply Tot.bql (b := true) | apply Tot.bql (b := false) | apply Tot.ift | apply Tot.iftt | apply Tot.ifff) | ((conv => arg 2; arg 1; simp (disch := first | omega | assumption) only [qa2, ifb_false, qap, qan, lenSl_sl, qau, qao, qai, qaj, qak, qaf, matRow_len, hxa, hxb, hxo, hixk, hixj, hba, hbb, hbo, hst]); (with_reducible first | apply Tot.of (qaa rfl) | apply Tot.bql (b := true) | (apply Tot.lss_t; omega))))
      conv => arg 2; simp (disch := first | omega | assumption) only [qai, qaj, qak]
      exact fin (b k j) (by simp [hmij])
def chK (N : Nat) (a b : Mt) (i : Nat) : Nat → Nat → Mt → Mt
  | 0, _, m => m
  | f + 1, k, m => chK N a b i f (k + 1) (if a i k then rowAdd (b k) i N 0 m else m)
theorem s33_mid (ka kb ko N i : Nat) (a b : Mt) (hN : N ≤ 1000) (hi : i < N) (hda : ka + N < ko) (hdb : kb + N < ko) : ∀ (f k : Nat) (S : St) (m : Mt), k + f = N → Tab S ko N m → Tab S ka N a → Tab S kb N b →
    Tot (InlT (Env.mk (sp [(0, .sl .sh 1 (matRow ka N)), (0, .sl .sh 1 (matRow kb N)), (3, tabD ko N N), (0, .int .i64 ((i : Int) + 1))] 56) []) S ko N (chK N a b i f k m))
      (iterK (f33_s1 mL (Run Tryz.prog rxA) (Dcall Tryz.prog rxA)) (Env.mk (sp [(0, .sl .sh 1 (matRow ka N)), (0, .sl .sh 1 (matRow kb N)), (3, tabD ko N N), (0, .int .i64 (i : Nat)), (0, .int .i64 (k : Nat))] 55) []) S) := by
  intro f
  induction f with
  | zero =>
    intro k S m hk hm ha hb
    refine Tot.iter ?_
    conv => arg 2; arg 1; unfold f33_s1
    (repeat' first | (with_reducible first | apply Tot.of (qaa rfl) | apply Tot.of (qag rfl) | apply Tot.of (qa0 rfl) | apply Tot.of (qac rfl) | apply Tot.of (st_inr rfl) | apply Tot.bql (b := false) | apply Tot.iff) | ((conv => arg 2; arg 1; simp (disch := first | omega | assumption) only [qap, qan, lenSl_sl, qai, qaj, qak, qaf, matRow_len]); (with_reducible first | apply Tot.of (qaa rfl) | (apply Tot.lss_f; omega))))
    ((try conv => arg 2; simp (disch := first | omega | assumption) only [qai, qaj, qak]); refine Tot.ret ?_)
    exact ⟨S, rfl, hm, Pres.refl _ _ _⟩
  | succ f ih =>
    intro k S m hk hm ha hb
    have hlt : k < N := by omega
    have hin : ∃ S', (iterK (f33_s0 mL (Run Tryz.prog rxA) (Dcall Tryz.prog rxA)) (Env.mk (sp [(0, .sl .sh 1 (matRow ka N)), (0, .sl .sh 1 (matRow kb N)), (3, tabD ko N N), (0, .int .i64 (i : Nat)), (0, .int .i64 (k : Nat)), (0, .int .i64 (0 : Nat))] 54) []) S) =
        some (Sum.inl (Env.mk (sp [(0, .sl .sh 1 (matRow ka N)), (0, .sl .sh 1 (matRow kb N)), (3, tabD ko N N), (0, .int .i64 (i : Nat)), (0, .int .i64 ((k : Int) + 1))] 55) [], S')) ∧
        Tab S' ko N (if a i k then rowAdd (b k) i N 0 m else m) ∧ Pres S S' ko N := by
      cases hc : a i k with
      | false =>
        obtain ⟨_, h1, S', rfl, h2, h3⟩ := s33_no ka kb ko N i k 0 a hN hi hlt (by omega) hc S m hm ha
        exact ⟨S', h1, h2, h3⟩
      | true =>
        obtain ⟨_, h1, S', rfl, h2, h3⟩ := s33_row ka kb ko N i k a b hN hi hlt hc hda hdb N 0 S m (by omega) hm ha hb
        exact ⟨S', h1, h2, h3⟩
    obtain ⟨S', h1, h2, h3⟩ := hin
    rw [Int.natCast_zero] at h1
    have := ih (k + 1) S' _ (by omega) h2 (ha.pres h3 (.inl hda)) (hb.pres h3 (.inl hdb))
    rw [Int.natCast_add, Int.natCast_one] at this
    refine Tot.iter ?_
    conv => arg 2; arg 1; unfold f33_s1
    (repeat' first | (with_reducible first | apply Tot.of (qag rfl) | apply Tot.of (qac rfl) | apply Tot.of (qay rfl) | apply Tot.of (st_bnit rfl) | apply Tot.bql (b := true) | apply Tot.ift) | ((conv => arg 2; arg 1; simp (disch := first | omega | assumption) only [lenSl_sl, qai, qaj, qak, qaf, matRow_len, h1]); (with_reducible first | apply Tot.of (qaa rfl) | (apply Tot.lss_t; omega))))
    conv => arg 2; simp (disch := first | omega | assumption) only []
    exact this.mono fun x h => InlT.of h h3 rfl
def chI (N : Nat) (a b : Mt) : Nat → Nat → Mt → Mt
  | 0, _, m => m
  | f + 1, i, m => chI N a b f (i + 1) (chK N a b i N 0 m)
theorem s33_loop (A : St) (ka kb ko N : Nat) (a b : Mt) (hN : N ≤ 1000) (hda : ka + N < ko) (hdb : kb + N < ko) : ∀ (f i : Nat) (S : St) (m : Mt), i + f = N → Tab S ko N m → Tab S ka N a → Tab S kb N b →
    Tot (OldT S ko N (chI N a b f i m)) (iterK (f33_s2 mL (Run Tryz.prog rxA) (Dcall Tryz.prog rxA) A) (Env.mk (sp [(0, .sl .sh 1 (matRow ka N)), (0, .sl .sh 1 (matRow kb N)), (3, tabD ko N N), (0, .int .i64 (i : Nat))] 56) []) S) := by
  intro f
  induction f with
  | zero =>
    intro i S m hi hm ha hb
    refine Tot.iter ?_
    conv => arg 2; arg 1; unfold f33_s2
    (repeat' first | (with_reducible first | apply Tot.of (qag rfl) | apply Tot.of (qa0 rfl) | apply Tot.of (qac rfl) | apply Tot.of (st_inr rfl) | apply Tot.of (qas rfl) | apply Tot.bql (b := false) | apply Tot.iff) | ((conv => arg 2; arg 1; simp (disch := first | omega | assumption) only [Option.map_some, leave_keep, qaq, lenSl_sl, qai, qaj, qak, matRow_len]); (with_reducible first | apply Tot.of (qaa rfl) | (apply Tot.lss_f; omega))))
    ((try conv => arg 2; simp (disch := first | omega | assumption) only []); refine Tot.ret ?_)
    exact ⟨S, rfl, hm, Pres.refl _ _ _⟩
  | succ f ih =>
    intro i S m hi hm ha hb
    have hlt : i < N := by omega
    obtain ⟨_, h1, S', rfl, h2, h3⟩ := s33_mid ka kb ko N i a b hN hlt hda hdb N 0 S m (by omega) hm ha hb
    rw [Int.natCast_zero] at h1
    have := ih (i + 1) S' _ (by omega) h2 (ha.pres h3 (.inl hda)) (hb.pres h3 (.inl hdb))
    rw [Int.natCast_add, Int.natCast_one] at this
    refine Tot.iter ?_
    conv => arg 2; arg 1; unfold f33_s2
    (repeat' first | (with_reducible first | apply Tot.of (qag rfl) | apply Tot.of (qac rfl) | apply Tot.of (qay rfl) | apply Tot.of (st_bnit rfl) | apply Tot.bql (b := true) | apply Tot.ift) | ((conv => arg 2; arg 1; simp (disch := first | omega | assumption) only [lenSl_sl, qai, qaj, qak, qaf, matRow_len, h1]); (with_reducible first | apply Tot.of (qaa rfl) | (apply Tot.lss_t; omega))))
    conv => arg 2; simp (disch := first | omega | assumption) only []
    exact this.mono fun x ⟨T, h4, h5, h6⟩ => ⟨T, h4, h5, h3.trans h6⟩
theorem s33 (S : St) (ka kb n : Nat) (a b : Mt) (hN : n ≤ 999) (ha : Tab S ka (n + 1) a) (hb : Tab S kb (n + 1) b) :
    Tot (NewT S (n + 1) (chI (n + 1) a b (n + 1) 0 fun _ _ => false)) (f33 mL (Run Tryz.prog rxA) (Dcall Tryz.prog rxA) (.sl .sh 1 (matRow ka (n + 1))) (.sl .sh 1 (matRow kb (n + 1))) S) := by
  obtain ⟨T, h1, h2, h3⟩ := NewT.get (s31 S n hN)
  obtain ⟨T', g1, g2, g3⟩ := OldT.get (s33_loop S ka kb S.length (n + 1) a b (by omega) ha.lt hb.lt (n + 1) 0 T _ (by omega) h2 (ha.keeps h3) (hb.keeps h3))
  rw [Int.natCast_zero] at g1
  have e : ((n : Int) + 1 - 1) = (n : Nat) := by omega
  rw [← e] at h1
  unfold f33
  refine Tot.mono (P := fun x => x = (.ret (tabD S.length (n + 1) (n + 1)), T')) ?_ fun x hx => ⟨T', hx, g2, h3.pres g3 (Nat.le_refl _)⟩
  (repeat' first | (with_reducible first | apply Tot.of (qa3 rfl) | apply Tot.of (st_it rfl)) | ((conv => arg 2; arg 1; simp (disch := first | omega | assumption) only [binO_sub, qan, lenSl_sl, qaf, qam, matRow_len, Int.natCast_add, Int.natCast_one, r31, h1]); (with_reducible first | apply Tot.of (qaa rfl))))
  (refine Tot.of_eq ?_; (conv => lhs; simp (disch := first | omega | assumption) only [qaf]); exact g1)
/-! what it is -/
theorem chK_iff (N : Nat) (a b : Mt) (i : Nat) : ∀ (f k : Nat) (m : Mt) (i' j' : Nat), j' < N → (chK N a b i f k m i' j' = true ↔ m i' j' = true ∨ (i' = i ∧ ∃ q, k ≤ q ∧ q < k + f ∧ a i q = true ∧ b q j' = true))
  | 0, k, m, i', j', h => by
    unfold chK
    constructor
    · exact .inl
    · rintro (h | ⟨_, q, _⟩)
      · exact h
      · omega
  | f + 1, k, m, i', j', h => by
    unfold chK
    rw [chK_iff N a b i f (k + 1) _ i' j' h]
    have hra : rowAdd (b k) i N 0 m i' j' = true ↔ m i' j' = true ∨ (i' = i ∧ b k j' = true) := by
      rw [rowAdd_get]
      simp only [Bool.or_eq_true, Bool.and_eq_true, decide_eq_true_eq]
      constructor
      · rintro (h1 | ⟨⟨e, _⟩, h1⟩)
        · exact .inl h1
        · exact .inr ⟨e, h1⟩
      · rintro (h1 | ⟨e, h1⟩)
        · exact .inl h1
        · exact .inr ⟨⟨e, by omega, by omega⟩, h1⟩
    constructor
    · rintro (h1 | ⟨e, q, h1, h2, h3⟩)
      · split at h1
        · rename_i hc
          rcases hra.1 h1 with h1 | ⟨e, h2⟩
          · exact .inl h1
          · exact .inr ⟨e, k, Nat.le_refl _, by omega, hc, h2⟩
        · exact .inl h1
      · exact .inr ⟨e, q, by omega, by omega, h3⟩
    · rintro (h1 | ⟨e, q, h2, h3, h4, h5⟩)
      · left
        split
        · exact hra.2 (.inl h1)
        · exact h1
      · rcases Nat.eq_or_lt_of_le h2 with rfl | h2
        · left
          rw [if_pos h4]
          exact hra.2 (.inr ⟨e, h5⟩)
        · exact .inr ⟨e, q, h2, by omega, h4, h5⟩
theorem chI_iff (N : Nat) (a b : Mt) : ∀ (f i : Nat) (m : Mt) (i' j' : Nat), j' < N → (chI N a b f i m i' j' = true ↔ m i' j' = true ∨ (i ≤ i' ∧ i' < i + f ∧ ∃ q, q < N ∧ a i' q = true ∧ b q j' = true))
  | 0, i, m, i', j', h => by
    unfold chI
    constructor
    · exact .inl
    · rintro (h | ⟨_, _, _⟩)
      · exact h
      · omega
  | f + 1, i, m, i', j', h => by
    unfold chI
    rw [chI_iff N a b f (i + 1) _ i' j' h, chK_iff N a b i N 0 m i' j' h]
    constructor
    · rintro ((h1 | ⟨rfl, q, _, h2, h3⟩) | ⟨h1, h2, h3⟩)
      · exact .inl h1
      · exact .inr ⟨Nat.le_refl _, by omega, q, by omega, h3⟩
      · exact .inr ⟨by omega, by omega, h3⟩
    · rintro (h1 | ⟨h1, h2, q, h3, h4⟩)
      · exact .inl (.inl h1)
      · rcases Nat.eq_or_lt_of_le h1 with rfl | h1
        · exact .inl (.inr ⟨rfl, q, Nat.zero_le _, by omega, h4⟩)
        · exact .inr ⟨h1, by omega, q, h3, h4⟩
end Go.Vm.Rx
