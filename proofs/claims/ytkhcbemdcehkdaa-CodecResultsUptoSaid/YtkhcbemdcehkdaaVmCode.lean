/- Code: what the abstract run says holds of the model's run; but for regions that draw, which are asked for. -/
import Derived.Test.YtkhcbemdcehkdaaVmRun
set_option linter.all false
namespace Go.Vm
open Go.RowKit
set_option linter.unusedVariables false

def DrawOk (X : Cx) : Prop := ∀ (id : Nat) (ops : Array Oper) (e : Env) (A : St) (o : Out), drawD X ops e A = some o → ∀ (g : Gh) (w : World) (a : Act), Inv g A w → EnvOk X.n g w e a →
  ∀ Q : Exit → Act → World → Prop, (∀ ex a' w', OutOk X.n g w o ex a' w' → Q ex a' w') → (Code.region id ops true).wp X.P Q a w
/-- code and its abstract run -/
def BodyOk (X : Cx) (c : Code) (body : Env → St → Option Out) : Prop := ∀ (e : Env) (A : St) (o : Out), body e A = some o → ∀ (g : Gh) (w : World) (a : Act), Inv g A w → EnvOk X.n g w e a →
  ∀ Q : Exit → Act → World → Prop, (∀ ex a' w', OutOk X.n g w o ex a' w' → Q ex a' w') → c.wp X.P Q a w

theorem repL_range {gh : Gh} {w : World} {e : List D} {vs : List Value} (h : RepL gh w e vs) (f : Nat → D) (hf : ∀ (i : Nat) d, e[i]? = some d → f i = d ∨ f i = .any) :
    RepL gh w ((List.range e.length).map f) vs := by
  refine RepL.of_get (by simp [h.length]) fun i d v h1 h2 => ?_
  rw [List.getElem?_map] at h1
  simp only [Option.map_eq_some_iff] at h1
  obtain ⟨j, hj, rfl⟩ := h1
  have hji : j = i := by
    have := (List.getElem?_eq_some_iff.1 hj)
    obtain ⟨h3, h4⟩ := this
    simpa using h4.symm
  subst hji
  have hlt : j < e.length := by
    have := (List.getElem?_eq_some_iff.1 hj).1
    simpa using this
  obtain ⟨u, hu, hr⟩ := h.get (List.getElem?_eq_getElem hlt)
  rw [h2] at hu
  cases hu
  rcases hf j _ (List.getElem?_eq_getElem hlt) with h | h
  · rw [h]; exact hr
  · rw [h]; simp [Rep]
theorem EnvOk.expand {n : Nat} {g : Gh} {w : World} {e : Env} {a : Act} (h : EnvOk n g w e a) : EnvOk n g w (expand n e) a := by
  refine ⟨by simp [Vm.expand], ?_, h.df⟩
  have := repL_range h.t (fun i => e.t.getD i .any) fun i d hi => .inl (by simp [List.getD, hi])
  rw [h.len] at this
  exact this
theorem EnvOk.mask {n : Nat} {g : Gh} {w : World} {e : Env} {a : Act} (h : EnvOk n g w e a) (live : Option (List Nat)) : EnvOk n g w (mask n live e) a := by
  unfold Vm.mask
  cases live with
  | none => exact h
  | some l =>
    refine ⟨by simp, ?_, h.df⟩
    have := repL_range h.t (fun i => cond (l.contains i) (e.t.getD i .any) .any) fun i d hi => by
      cases l.contains i
      · exact .inr rfl
      · exact .inl (by simp [List.getD, hi])
    rw [h.len] at this
    exact this

/-- a round: what it leaves is sealed -/
theorem step_ok {X : Cx} {c : Code} {body : Env → St → Option Out} (hb : BodyOk X c body) (live : Option (List Nat)) (keep : Bool) : BodyOk X c (stepD X.n live keep body) := by
  intro e A o h g w a I he Q hQ
  simp only [stepD, Option.bind_eq_some_iff] at h
  obtain ⟨o1, h1, h⟩ := h
  unfold Out.norm at h
  refine hb _ A o1 h1 g w a I he.expand Q fun ex a' w' ⟨g1, E, I1, he1, hex⟩ => ?_
  cases hx : o1.ex with
  | normal =>
    rw [hx] at h hex
    simp only at h
    cases keep with
    | true =>
      simp only [cond_true, Option.some.injEq] at h
      subst h
      exact hQ _ _ _ ⟨g1, E, I1, he1.mask live, hex⟩
    | false =>
      simp only [cond_false] at h
      obtain ⟨hk, h⟩ := guardP_eq.1 h
      · cases h
        obtain ⟨E', I', K⟩ := I.trunc E I1 hk
        have hm := he1.mask live
        refine hQ _ _ _ ⟨_, E', I', ⟨by simp [Env.shut, hm.len], ?_, ?_⟩, by cases ex <;> first | trivial | exact hex.elim⟩
        · have := RepL.keep K _ _ hm.t
          rw [← I.len]
          exact this
        · have := RepDf.keep K hm.df
          rw [← I.len]
          exact this
  | exit id => rw [hx] at h hex; simp only [Option.some.injEq] at h; subst h; exact hQ _ _ _ ⟨g1, E, I1, he1, by rw [hx]; exact hex⟩
  | ret => rw [hx] at h hex; simp only [Option.some.injEq] at h; subst h; exact hQ _ _ _ ⟨g1, E, I1, he1, by rw [hx]; exact hex⟩
  | pan d => rw [hx] at h hex; simp only [Option.some.injEq] at h; subst h; exact hQ _ _ _ ⟨g1, E, I1, he1, by rw [hx]; exact hex⟩

theorem loop_ok {X : Cx} {c : Code} {step : Env → St → Option Out} (hb : BodyOk X c step) (k : Nat) : BodyOk X (.loop c) (iterN k step) := by
  intro e A o h g w a I he Q hQ b K cs
  have key : ∀ k e A, iterN k step e A = some o → ∀ (g : Gh) (w : World) (a : Act), Inv g A w → EnvOk X.n g w e a → (∀ ex a' w', OutOk X.n g w o ex a' w' → Q ex a' w') →
      ∃ ex a' w', Q ex a' w' ∧ Arrives X.P (lone (b.at a (.code c :: .inLoop c :: K)) cs w) b K cs ex a' w' := by
    intro k
    induction k with
    | zero => intro e A h; simp [iterN] at h
    | succ k ih =>
      intro e A h g w a I he hQ
      simp only [iterN, Option.bind_eq_some_iff] at h
      obtain ⟨o1, h1, h⟩ := h
      obtain ⟨ex, a1, w1, ho, harr⟩ := hb e A o1 h1 g w a I he (OutOk X.n g w o1) (fun _ _ _ h => h) b (.inLoop c :: K) cs
      obtain ⟨g1, E, I1, he1, hex⟩ := ho
      have other : (∀ e', o1.ex ≠ e' ∨ e' ≠ .normal) → o1 = o → ex ≠ .normal → ∃ ex a' w', Q ex a' w' ∧ Arrives X.P (lone (b.at a (.code c :: .inLoop c :: K)) cs w) b K cs ex a' w' := by
        intro _ heq hne
        subst heq
        refine ⟨ex, a1, w1, hQ _ _ _ ⟨g1, E, I1, he1, hex⟩, ?_⟩
        exact .pass (x := .inLoop c) rfl (fun _ _ => .inl hne) harr
      cases hx : o1.ex with
      | normal =>
        rw [hx] at h hex
        cases ex <;> simp only [ExOk] at hex
        obtain ⟨ex2, a2, w2, hq2, harr2⟩ := ih o1.env o1.st h g1 w1 a1 I1 he1 fun ex a' w' ho => hQ _ _ _ (ho.ext E)
        exact ⟨ex2, a2, w2, hq2, .of_steps (Steps.trans harr (.one step_inLoop)) harr2⟩
      | exit id =>
        rw [hx] at h
        simp only [Option.some.injEq] at h
        exact other (fun e' => by rw [hx]; cases e' <;> simp) h (by rintro rfl; rw [hx] at hex; exact hex)
      | ret =>
        rw [hx] at h
        simp only [Option.some.injEq] at h
        exact other (fun e' => by rw [hx]; cases e' <;> simp) h (by rintro rfl; rw [hx] at hex; exact hex)
      | pan d =>
        rw [hx] at h
        simp only [Option.some.injEq] at h
        exact other (fun e' => by rw [hx]; cases e' <;> simp) h (by rintro rfl; rw [hx] at hex; exact hex)
  obtain ⟨ex, a', w', hq, harr⟩ := key k e A h g w a I he hQ
  exact ⟨ex, a', w', hq, .of_steps (.one step_loop) harr⟩

def ItOk (it : (Env → St → Option Out) → Env → St → Option Out) : Prop := ∀ step e A o, it step e A = some o → ∃ k, iterN k step e A = some o

theorem code_sim (X : Cx) (hc : CallOk X.P X.call) (hi : ItOk X.it) (hd : DrawOk X) : ∀ c : Code, BodyOk X c (codeD X c) := by
  intro c
  induction c with
  | skip =>
    intro e A o h g w a I he Q hQ
    simp only [codeD, Option.some.injEq] at h
    subst h
    exact wp_skip (hQ _ _ _ ⟨g, Ext.refl _ _, I, he, trivial⟩)
  | label l =>
    intro e A o h g w a I he Q hQ
    simp only [codeD, Option.some.injEq] at h
    subst h
    exact wp_label (hQ _ _ _ ⟨g, Ext.refl _ _, I, he, trivial⟩)
  | exit id =>
    intro e A o h g w a I he Q hQ
    simp only [codeD, Option.some.injEq] at h
    subst h
    exact wp_exit (hQ _ _ _ ⟨g, Ext.refl _ _, I, he, rfl⟩)
  | ret =>
    intro e A o h g w a I he Q hQ
    simp only [codeD, Option.some.injEq] at h
    subst h
    exact wp_ret (hQ _ _ _ ⟨g, Ext.refl _ _, I, he, trivial⟩)
  | region id ops draw =>
    intro e A o h g w a I he Q hQ
    simp only [codeD] at h
    cases draw with
    | false => exact wp_region_list (ops_sim X hc ops X.n ops.toList e A o h g w a I he Q hQ)
    | true => exact hd id ops e A o h g w a I he Q hQ
  | seq x y ihx ihy =>
    intro e A o h g w a I he Q hQ
    simp only [codeD, Option.bind_eq_some_iff] at h
    obtain ⟨o1, h1, h⟩ := h
    refine wp_seq (ihx e A o1 h1 g w a I he _ fun ex a' w' ⟨g1, E, I1, he1, hex⟩ => ?_)
    unfold Out.seq at h
    cases hx : o1.ex with
    | normal =>
      rw [hx] at h hex
      cases ex <;> simp only [ExOk] at hex
      exact ihy _ _ o h g1 w' a' I1 he1.expand Q fun ex a2 w2 ho => hQ _ _ _ (ho.ext E)
    | exit id =>
      rw [hx] at h hex
      simp only [Option.some.injEq] at h
      subst h
      cases ex <;> simp only [ExOk] at hex
      exact hQ _ _ _ ⟨g1, E, I1, he1, by simpa [ExOk] using hex⟩
    | ret =>
      rw [hx] at h hex
      simp only [Option.some.injEq] at h
      subst h
      cases ex <;> simp only [ExOk] at hex
      exact hQ _ _ _ ⟨g1, E, I1, he1, trivial⟩
    | pan d =>
      rw [hx] at h hex
      simp only [Option.some.injEq] at h
      subst h
      cases ex <;> simp only [ExOk] at hex
      exact hQ _ _ _ ⟨g1, E, I1, he1, hex⟩
  | cond c x y ihx ihy =>
    intro e A o h g w a I he Q hQ
    simp only [codeD, Option.bind_eq_some_iff] at h
    obtain ⟨t, ht, h⟩ := h
    have hv := bool?_rep ht (rep_eval he.t c)
    refine wp_cond hv ?_
    cases t
    · exact ihy e A o h g w a I he Q hQ
    · exact ihx e A o h g w a I he Q hQ
  | block id c ih =>
    intro e A o h g w a I he Q hQ
    simp only [codeD, Option.map_eq_some_iff] at h
    obtain ⟨o1, h1, rfl⟩ := h
    refine wp_block (ih e A o1 h1 g w a I he _ fun ex a' w' ⟨g1, E, I1, he1, hex⟩ => ?_)
    unfold Out.block at hQ
    cases hx : o1.ex with
    | normal =>
      rw [hx] at hQ hex
      cases ex <;> simp only [ExOk] at hex
      exact hQ _ _ _ ⟨g1, E, I1, he1, by rw [hx]; trivial⟩
    | exit i =>
      rw [hx] at hQ hex
      cases ex <;> simp only [ExOk] at hex
      rename_i j
      subst hex
      simp only [Exit.inBlock]
      split
      · rename_i e
        exact hQ _ _ _ ⟨g1, E, I1, he1, by simp [e, ExOk]⟩
      · rename_i e
        exact hQ _ _ _ ⟨g1, E, I1, he1, by simp [e, ExOk]⟩
    | ret =>
      rw [hx] at hQ hex
      cases ex <;> simp only [ExOk] at hex
      exact hQ _ _ _ ⟨g1, E, I1, he1, by rw [hx]; trivial⟩
    | pan d =>
      rw [hx] at hQ hex
      cases ex <;> simp only [ExOk] at hex
      exact hQ _ _ _ ⟨g1, E, I1, he1, by rw [hx]; exact hex⟩
  | loop c ih =>
    intro e A o h g w a I he Q hQ
    simp only [codeD] at h
    obtain ⟨k, hk⟩ := hi _ _ _ _ h
    exact loop_ok (step_ok ih _ _) k _ A o hk g w a I (he.mask _) Q hQ
  | rangeFunc f ps x y => intro e A o h; simp [codeD] at h
  | scope c => intro e A o h; simp [codeD] at h
  | goto l => intro e A o h; simp [codeD] at h
  | refuse s => intro e A o h; simp [codeD] at h
end Go.Vm
