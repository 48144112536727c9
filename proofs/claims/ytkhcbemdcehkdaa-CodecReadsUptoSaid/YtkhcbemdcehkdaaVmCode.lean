/- VmRun, VmCode in one text. -/
import Derived.Test.YtkhcbemdcehkdaaVmTok
import Derived.Tactics
import Derived.Recover
set_option linter.all false
/- Regions and code: what the abstract run says holds of the model's run. -/
namespace Go.Vm
open Go.RowKit
set_option linter.unusedVariables false

def EndOk (g : Gh) (w : World) : Res → Ending → Prop
  | .ret d, .returned v => Rep g w d v
  | .pan d, .panicked chain => ∃ t u, chain = [{ v := .iface t u, recovered := false }] ∧ Rep g w d (.iface t u)
  | _, _ => False
/-- the answer r of function f is right wherever the store and the arguments stand for memory -/
def Sound (P : Program) (f : FuncId) (ds : List D) (A : St) (r : Res × St) : Prop :=
  ∀ (g : Gh) (w : World) (vs : List Value), Inv g A w → RepL g w ds vs →
    ((callFunc f vs.toArray).run P w = .ok (.enter f vs.toArray) w ∧
      Calls P f vs.toArray w fun e w' => ∃ g', Ext g w g' w' ∧ Inv g' r.2 w' ∧ EndOk g' w' r.1 e) ∨
    (∃ v w' g' d, (callFunc f vs.toArray).run P w = .ok (.value v) w' ∧ Ext g w g' w' ∧ Inv g' r.2 w' ∧ r.1 = .ret d ∧ Rep g' w' d v)
def CallOk (P : Program) (call : FuncId → List D → St → ORes) : Prop := ∀ f ds A r, call f ds A = some r → Sound P f ds A r

def RepDf1 (g : Gh) (w : World) (x : D × List D) (d : Deferred) : Prop :=
  ∃ fn first cap vs, Rep g w x.1 (.func fn first cap) ∧ RepL g w x.2 vs ∧ d.target = .fn fn cap ∧ d.args = first ++ vs.toArray
def RepDf (g : Gh) (w : World) : List (D × List D) → List Deferred → Prop
  | [], ds => ds = []
  | x :: r, ds => ∃ d ds', ds = d :: ds' ∧ RepDf1 g w x d ∧ RepDf g w r ds'
theorem RepDf.ext {g g' : Gh} {w w' : World} (E : Ext g w g' w') : ∀ {xs : List (D × List D)} {ds : List Deferred}, RepDf g w xs ds → RepDf g' w' xs ds
  | [], _, h => h
  | x :: r, ds, h => by
    obtain ⟨d, ds', rfl, ⟨fn, first, cap, vs, h1, h2, h3, h4⟩, h5⟩ := h
    exact ⟨d, ds', rfl, ⟨fn, first, cap, vs, E.rep h1, E.repL h2, h3, h4⟩, h5.ext E⟩
theorem RepDf.keep {g g' : Gh} {w w' : World} (K : Keeps g w g' w') : ∀ {xs : List (D × List D)} {ds : List Deferred}, RepDf g w xs ds → RepDf g' w' (xs.map fun p => (p.1.shut g'.len, D.shutL g'.len p.2)) ds
  | [], _, h => h
  | x :: r, ds, h => by
    obtain ⟨d, ds', rfl, ⟨fn, first, cap, vs, h1, h2, h3, h4⟩, h5⟩ := h
    exact ⟨d, ds', rfl, ⟨fn, first, cap, vs, Rep.keep K _ _ h1, RepL.keep K _ _ h2, h3, h4⟩, h5.keep K⟩

def ExOk (g : Gh) (w : World) : Ex → Exit → Prop
  | .normal, .normal => True
  | .exit i, .exit j => i = j
  | .ret, .ret => True
  | .pan d, .panic chain => ∃ t u, chain = [{ v := .iface t u, recovered := false }] ∧ Rep g w d (.iface t u)
  | _, _ => False
/-- an environment stands for a frame's slots and deferred calls -/
structure EnvOk (n : Nat) (g : Gh) (w : World) (e : Env) (a : Act) : Prop where
  len : e.t.length = n
  t : RepL g w e.t a.tmps.toList
  df : RepDf g w e.df a.defers
theorem EnvOk.ext {n : Nat} {g g' : Gh} {w w' : World} {e : Env} {a : Act} (h : EnvOk n g w e a) (E : Ext g w g' w') : EnvOk n g' w' e a := ⟨h.len, E.repL h.t, h.df.ext E⟩
def OutOk (n : Nat) (g : Gh) (w : World) (o : Out) (ex : Exit) (a : Act) (w' : World) : Prop :=
  ∃ g', Ext g w g' w' ∧ Inv g' o.st w' ∧ EnvOk n g' w' o.env a ∧ ExOk g' w' o.ex ex
theorem OutOk.ext {n : Nat} {g g1 : Gh} {w w1 w' : World} {o : Out} {ex : Exit} {a : Act} (E : Ext g w g1 w1) (h : OutOk n g1 w1 o ex a w') : OutOk n g w o ex a w' := by
  obtain ⟨g', E', h⟩ := h
  exact ⟨g', E.trans E', h⟩

theorem EnvOk.put {n : Nat} {g : Gh} {w : World} {e : Env} {a : Act} (h : EnvOk n g w e a) (dst : Option Tmp) {d : D} {v : Value} (hr : Rep g w d v) :
    EnvOk n g w { e with t := putD dst d e.t } (a.put dst v) := by
  cases dst with
  | none => exact h
  | some t =>
    refine ⟨by simp [putD, h.len], ?_, h.df⟩
    simp only [putD, Act.put, Array.toList_setIfInBounds]
    exact h.t.set hr t

theorem wanted_sim {ops : Array Oper} {n : Nat} {g : Gh} {w : World} {e : Env} {a : Act} (h : EnvOk n g w e a) {o : Oper} {b : Bool} (hw : wantedD ops e.t o = some b) :
    Region.wanted o (yielded ops a.tmps) = b := by
  unfold wantedD at hw
  unfold Region.wanted
  split at hw
  · rename_i hg
    rw [hg]
    simpa using hw
  · rename_i j want hg
    rw [hg]
    simp only
    split at hw
    · rename_i t ht
      unfold yielded
      rw [ht]
      simp only [Option.bind_some]
      cases het : e.t[t]? with
      | none =>
        simp only [List.getD, het, Option.getD_none, undefD, guardB, Option.some.injEq] at hw
        subst hw
        have : a.tmps[t]? = none := by
          simp at het
          rw [h.t.length] at het
          simp at het
          simp [het]
        simp [this]
      | some d =>
        obtain ⟨v, hv, hr⟩ := h.t.get het
        have hv' : a.tmps[t]? = some v := by simpa using hv
        simp only [List.getD, het, Option.getD_some] at hw
        rw [hv']
        unfold guardB at hw
        split at hw
        · simp only [Rep] at hr
          subst hr
          simp only [Option.some.injEq] at hw
          subst hw
          rename_i b
          cases b <;> cases want <;> rfl
        · simp only [Rep] at hr
          obtain ⟨vs, rfl, _⟩ := hr
          simp only [Option.some.injEq] at hw
          subst hw
          cases want <;> rfl
        · cases hw
    · rename_i ht
      simp only [Option.some.injEq] at hw
      subst hw
      unfold yielded
      rw [ht]
      cases want <;> rfl

theorem Oper.wp_value {P : Program} {o : Oper} {a : Act} {w w' : World} {z : Value} {K : Act → World → Prop} {Q : Exit → Act → World → Prop}
    (h : (execOp a.eval o).run P w = .ok (.value z) w') (hK : K (a.put o.dst z) w') : o.wp P a w K Q := by
  unfold Oper.wp; rw [h]; exact hK
theorem Oper.wp_skip {P : Program} {o : Oper} {a : Act} {w w' : World} {K : Act → World → Prop} {Q : Exit → Act → World → Prop}
    (h : (execOp a.eval o).run P w = .ok .skip w') (hK : K (a.put o.dst undef) w') : o.wp P a w K Q := by
  unfold Oper.wp; rw [h]; exact hK

/-- a call -/
theorem call_sim {P : Program} {call : FuncId → List D → St → ORes} (hc : CallOk P call) {o : Oper} {e : Env} {a : Act} {A : St} {r : Res × St} (h : callD call e.t o.op A = some r)
    {n : Nat} {g : Gh} {w : World} (I : Inv g A w) (he : EnvOk n g w e a) {K : Act → World → Prop} {Q : Exit → Act → World → Prop}
    (hK : ∀ g' w' d v, r.1 = .ret d → Ext g w g' w' → Inv g' r.2 w' → Rep g' w' d v → K (a.put o.dst v) w')
    (hQ : ∀ g' w' d t u, r.1 = .pan d → Ext g w g' w' → Inv g' r.2 w' → Rep g' w' d (.iface t u) → Q (.panic [{ v := .iface t u, recovered := false }]) a w') : o.wp P a w K Q := by
  have ev := fun x => rep_eval he.t x
  obtain ⟨dst, op, type, pos, after, guard⟩ := o
  have hp1 : ∀ {x : Operand} {p : Res}, panicD (evalO e.t x) = some p → (p, A) = r → (∀ t u, a.eval x = .iface t u → (execOp a.eval ⟨dst, op, type, pos, after, guard⟩).run P w = .halt (.panic (.iface t u)) w) → Oper.wp P ⟨dst, op, type, pos, after, guard⟩ a w K Q := by
    intro x p hp hr hrun
    subst hr
    have hx' := ev x
    unfold panicD at hp
    split at hp
    · rename_i t d hd
      cases hp
      rw [hd] at hx'
      have hx2 := hx'
      simp only [Rep] at hx'
      obtain ⟨u, hu, _⟩ := hx'
      unfold Oper.wp
      rw [hrun t u hu]
      rw [hu] at hx2
      exact hQ g w _ t u rfl (Ext.refl _ _) I hx2
    · cases hp
  cases op <;> simp only [callD, reduceCtorEq] at h
  case panic x =>
    simp only [Option.map_eq_some_iff] at h
    obtain ⟨p, hp, hr⟩ := h
    exact hp1 hp hr fun t u hu => by simp [execOp, Instr.panic, hu]
  rename_i c
  obtain ⟨callee, args, argTypes⟩ := c
  cases callee with
  | invoke => simp only [reduceCtorEq] at h
  | builtin b =>
    cases b <;> (try (simp only [reduceCtorEq] at h; done))
    simp only at h
    split at h
    · rename_i x hx
      simp only [Option.map_eq_some_iff] at h
      obtain ⟨p, hp, rfl⟩ := h
      have hx' := ev x
      unfold panicD at hp
      split at hp
      · rename_i t d hd
        cases hp
        rw [hd] at hx'
        have hx2 := hx'
        simp only [Rep] at hx'
        obtain ⟨u, hu, _⟩ := hx'
        have e1 : args = #[x] := by rw [← Array.toArray_toList (xs := args), hx]
        subst e1
        have hrun : (execOp a.eval ⟨dst, .call ⟨.builtin .panic, #[x], argTypes⟩, type, pos, after, guard⟩).run P w = .halt (.panic (.iface t u)) w := by
          simp [execOp, resolve, invoke, builtin, Instr.panic, hu]
        unfold Oper.wp
        rw [hrun]
        rw [hu] at hx2
        exact hQ g w _ t u rfl (Ext.refl _ _) I hx2
      · cases hp
    · cases h
  | value f =>
    simp only at h
    have hf := ev f
    unfold applyD at h
    split at h
    · rename_i gf first cap hd
      rw [hd] at hf
      simp only [Rep] at hf
      obtain ⟨fs, cs, hv, h1, h2⟩ := hf
      have hargs := repL_map he.t args.toList
      have hall : RepL g w (first ++ args.toList.map (evalO e.t) ++ cap) (fs.toList ++ args.toList.map a.eval ++ cs.toList) := (h1.append hargs).append h2
      have harr : (fs.toList ++ args.toList.map a.eval ++ cs.toList).toArray = fs ++ args.map a.eval ++ cs := by
        apply Array.ext'; simp
      have hs := hc _ _ _ _ h g w _ I hall
      rw [harr] at hs
      have hrun : (execOp a.eval ⟨dst, .call ⟨.value f, args, argTypes⟩, type, pos, after, guard⟩).run P w = (callFunc gf (fs ++ args.map a.eval ++ cs)).run P w := by
        simp [execOp, resolve, Deferred.ofValue, invoke, hv]
      unfold Oper.wp
      rw [hrun]
      rcases hs with ⟨h3, h4⟩ | ⟨v, w', g', d, h3, h4, h5, h6, h7⟩
      · rw [h3]
        simp only [Oper.upon]
        refine h4.mono fun en w' ⟨g', E, I', hen⟩ => ?_
        obtain ⟨r1, r2⟩ := r
        cases r1 with
        | ret d =>
          cases en with
          | returned v => exact hK g' w' d v rfl E I' hen
          | panicked chain => exact hen.elim
          | outgrown => exact hen.elim
        | pan d =>
          cases en with
          | returned v => exact hen.elim
          | panicked chain =>
            obtain ⟨t, u, rfl, hr⟩ := hen
            exact hQ g' w' d t u rfl E I' hr
          | outgrown => exact hen.elim
      · rw [h3]
        exact hK g' w' d v h6 h4 h5 h7
    · cases h

theorem defer_sim {P : Program} {o : Oper} {e : Env} {a : Act} {x : D × List D} (h : deferD e.t o.op = some x) {n : Nat} {g : Gh} {w : World} (he : EnvOk n g w e a) :
    ∃ d, (execOp a.eval o).run P w = .ok (.defer d) w ∧ RepDf1 g w x d := by
  have ev := fun x => rep_eval he.t x
  obtain ⟨dst, op, type, pos, after, guard⟩ := o
  cases op <;> simp only [deferD, reduceCtorEq] at h
  rename_i c
  obtain ⟨callee, args, argTypes⟩ := c
  cases callee <;> (try (simp only [reduceCtorEq] at h; done))
  rename_i f
  simp only at h
  have hv := ev f
  split at h
  · rename_i fn first cap hd
    simp only [Option.some.injEq] at h
    subst h
    rw [hd] at hv
    have hv2 := hv
    simp only [Rep] at hv
    obtain ⟨fs, cs, hv, h1, h2⟩ := hv
    rw [hv] at hv2
    refine ⟨{ target := .fn fn cs, args := fs ++ args.map a.eval }, by simp [execOp, resolve, Deferred.ofValue, hv], fn, fs, cs, args.toList.map a.eval, hv2, repL_map he.t args.toList, rfl, ?_⟩
    apply Array.ext'
    simp
  · cases h

theorem ops_sim (X : Cx) (hc : CallOk X.P X.call) (ops : Array Oper) (n : Nat) : ∀ (os : List Oper) (e : Env) (A : St) (o : Out), opsD X ops os e A = some o →
    ∀ (g : Gh) (w : World) (a : Act), Inv g A w → EnvOk n g w e a → ∀ Q : Exit → Act → World → Prop, (∀ ex a' w', OutOk n g w o ex a' w' → Q ex a' w') → wpList X.P ops Q os a w
  | [], e, A, o, h, g, w, a, I, he, Q, hQ => by
    simp only [opsD, Option.some.injEq] at h
    subst h
    exact hQ _ _ _ ⟨g, Ext.refl _ _, I, he, trivial⟩
  | op :: os, e, A, o, h, g, w, a, I, he, Q, hQ => by
    simp only [opsD, Option.bind_eq_some_iff] at h
    obtain ⟨b, hb, h⟩ := h
    have hwant := wanted_sim he hb
    have next : ∀ (g1 : Gh) (w1 : World) (e1 : Env) (A1 : St) (a1 : Act), Ext g w g1 w1 → Inv g1 A1 w1 → EnvOk n g1 w1 e1 a1 → opsD X ops os e1 A1 = some o → wpList X.P ops Q os a1 w1 := by
      intro g1 w1 e1 A1 a1 E I1 he1 h1
      exact ops_sim X hc ops n os e1 A1 o h1 g1 w1 a1 I1 he1 Q fun ex a' w' ho => hQ _ _ _ (ho.ext E)
    simp only [wpList, hwant]
    -- a value put behind an operation
    have put : ∀ (g1 : Gh) (w1 : World) (A1 : St) (d : D) (v : Value), Ext g w g1 w1 → Inv g1 A1 w1 → Rep g1 w1 d v →
        opsD X ops os { e with t := putD op.dst (tokD (hintOf X.h op.dst) d A1).1 e.t } (tokD (hintOf X.h op.dst) d A1).2 = some o → wpList X.P ops Q os (a.put op.dst v) w1 := by
      intro g1 w1 A1 d v E I1 hr h1
      obtain ⟨g2, E2, I2, R2⟩ := tokD_sim (hintOf X.h op.dst) I1 hr
      exact next g2 w1 _ _ _ (E.trans E2) I2 (((he.ext E).ext E2).put op.dst R2) h1
    cases b with
    | false =>
      rw [if_neg (by simp)]
      split at h
      · simp only [cond_false, Option.bind_eq_some_iff, Option.some.injEq] at h
        obtain ⟨d, rfl, h⟩ := h
        exact put g w A undefD undef (Ext.refl _ _) I (rep_undef g w) h
      · simp only [cond_false, Option.bind_eq_some_iff, Option.some.injEq] at h
        obtain ⟨r, rfl, h⟩ := h
        exact put g w A undefD undef (Ext.refl _ _) I (rep_undef g w) h
      · simp only [cond_false, Option.bind_eq_some_iff, Option.some.injEq] at h
        obtain ⟨r, rfl, h⟩ := h
        exact next g w _ _ _ (Ext.refl _ _) I (he.put op.dst (rep_undef g w)) h
      · simp at h
      · cases h
    | true =>
      rw [if_pos rfl]
      left
      split at h
      · simp only [cond_true, Option.bind_eq_some_iff] at h
        obtain ⟨d, hd, h⟩ := h
        obtain ⟨z, h1, h2⟩ := pure_sim hd he.t
        exact Oper.wp_value h1 (put g w A d z (Ext.refl _ _) I h2 h)
      · simp only [cond_true, Option.bind_eq_some_iff] at h
        obtain ⟨r, hd, h⟩ := h
        obtain ⟨nx, w', g', h1, h2, h3, h4⟩ := world_sim (d := r.1) (A' := r.2) hd I he.t
        cases nx <;> simp only [NextOk] at h2
        case value z => exact Oper.wp_value h1 (put g' w' r.2 r.1 z h3 h4 h2 h)
        case skip =>
          rw [h2] at h
          exact Oper.wp_skip h1 (put g' w' r.2 undefD undef h3 h4 (rep_undef _ _) h)
      · simp only [cond_true, Option.bind_eq_some_iff] at h
        obtain ⟨r, hd, h⟩ := h
        refine call_sim hc hd I he (fun g' w' d v hr E I' R => ?_) fun g' w' d t u hr E I' R => ?_
        · rw [hr] at h
          exact next g' w' _ _ _ E I' ((he.ext E).put op.dst R) h
        · rw [hr] at h
          simp only [Res.elim, Option.some.injEq] at h
          subst h
          exact hQ _ _ _ ⟨g', E, I', he.ext E, t, u, rfl, R⟩
      · simp only [cond_true, Option.bind_eq_some_iff] at h
        obtain ⟨x, hx, h⟩ := h
        obtain ⟨d, h1, h2⟩ := defer_sim (P := X.P) hx he
        unfold Oper.wp
        rw [h1]
        simp only [Oper.upon]
        refine next g w _ A _ (Ext.refl _ _) I ?_ h
        have he1 : EnvOk n g w { e with df := x :: e.df } { a with defers := d :: a.defers } := ⟨he.len, he.t, ⟨d, a.defers, rfl, h2, he.df⟩⟩
        exact he1.put op.dst (rep_undef g w)
      · cases h
end Go.Vm

/- Code: what the abstract run says holds of the model's run; but for regions that draw, which are asked for. -/
namespace Go.Vm
open Go.RowKit
set_option linter.unusedVariables false

def DrawOk (X : Cx) : Prop := ∀ (id : Nat) (ops : Array Oper) (e : Env) (A : St) (o : Out), drawD X ops e A = some o → ∀ (g : Gh) (w : World) (a : Act), Inv g A w → EnvOk X.n g w e a →
  ∀ Q : Exit → Act → World → Prop, (∀ ex a' w', OutOk X.n g w o ex a' w' → Q ex a' w') → (Code.region id ops true).wp X.P Q a w
/-- code and its abstract run -/
def BodyOk (X : Cx) (c : Code) (body : Env → St → Option Out) : Prop := ∀ (e : Env) (A : St) (o : Out), body e A = some o → ∀ (g : Gh) (w : World) (a : Act), Inv g A w → EnvOk X.n g w e a →
  ∀ Q : Exit → Act → World → Prop, (∀ ex a' w', OutOk X.n g w o ex a' w' → Q ex a' w') → c.wp X.P Q a w

theorem repL_range {gh : Gh} {w : World} {e : List D} {vs : List Value} (h : RepL gh w e vs) (f : Nat → D) (hf : ∀ (i : Nat) d, e[i]? = some d → f i = d ∨ f i = .any) :
    RepL gh w ((List.range e.length).map f) vs := by
  refine RepL.of_get (by simp [h.length]) fun i d v h1 h2 => ?_
  rw [List.getElem?_map] at h1
  simp only [Option.map_eq_some_iff] at h1
  obtain ⟨j, hj, rfl⟩ := h1
  have hji : j = i := by
    have := (List.getElem?_eq_some_iff.1 hj)
    obtain ⟨h3, h4⟩ := this
    simpa using h4.symm
  subst hji
  have hlt : j < e.length := by
    have := (List.getElem?_eq_some_iff.1 hj).1
    simpa using this
  obtain ⟨u, hu, hr⟩ := h.get (List.getElem?_eq_getElem hlt)
  rw [h2] at hu
  cases hu
  rcases hf j _ (List.getElem?_eq_getElem hlt) with h | h
  · rw [h]; exact hr
  · rw [h]; simp [Rep]
theorem EnvOk.expand {n : Nat} {g : Gh} {w : World} {e : Env} {a : Act} (h : EnvOk n g w e a) : EnvOk n g w (expand n e) a := by
  refine ⟨by simp [Vm.expand], ?_, h.df⟩
  have := repL_range h.t (fun i => e.t.getD i .any) fun i d hi => .inl (by simp [List.getD, hi])
  rw [h.len] at this
  exact this
theorem EnvOk.mask {n : Nat} {g : Gh} {w : World} {e : Env} {a : Act} (h : EnvOk n g w e a) (live : Option (List Nat)) : EnvOk n g w (mask n live e) a := by
  unfold Vm.mask
  cases live with
  | none => exact h
  | some l =>
    refine ⟨by simp, ?_, h.df⟩
    have := repL_range h.t (fun i => cond (l.contains i) (e.t.getD i .any) .any) fun i d hi => by
      cases l.contains i
      · exact .inr rfl
      · exact .inl (by simp [List.getD, hi])
    rw [h.len] at this
    exact this

/-- a round: what it leaves is sealed -/
theorem step_ok {X : Cx} {c : Code} {body : Env → St → Option Out} (hb : BodyOk X c body) (live : Option (List Nat)) (keep : Bool) : BodyOk X c (stepD X.n live keep body) := by
  intro e A o h g w a I he Q hQ
  simp only [stepD, Option.bind_eq_some_iff] at h
  obtain ⟨o1, h1, h⟩ := h
  unfold Out.norm at h
  refine hb _ A o1 h1 g w a I he.expand Q fun ex a' w' ⟨g1, E, I1, he1, hex⟩ => ?_
  cases hx : o1.ex with
  | normal =>
    rw [hx] at h hex
    simp only at h
    cases keep with
    | true =>
      simp only [cond_true, Option.some.injEq] at h
      subst h
      exact hQ _ _ _ ⟨g1, E, I1, he1.mask live, hex⟩
    | false =>
      simp only [cond_false] at h
      obtain ⟨hk, h⟩ := guardP_eq.1 h
      · cases h
        obtain ⟨E', I', K⟩ := I.trunc E I1 hk
        have hm := he1.mask live
        refine hQ _ _ _ ⟨_, E', I', ⟨by simp [Env.shut, hm.len], ?_, ?_⟩, by cases ex <;> first | trivial | exact hex.elim⟩
        · have := RepL.keep K _ _ hm.t
          rw [← I.len]
          exact this
        · have := RepDf.keep K hm.df
          rw [← I.len]
          exact this
  | exit id => rw [hx] at h hex; simp only [Option.some.injEq] at h; subst h; exact hQ _ _ _ ⟨g1, E, I1, he1, by rw [hx]; exact hex⟩
  | ret => rw [hx] at h hex; simp only [Option.some.injEq] at h; subst h; exact hQ _ _ _ ⟨g1, E, I1, he1, by rw [hx]; exact hex⟩
  | pan d => rw [hx] at h hex; simp only [Option.some.injEq] at h; subst h; exact hQ _ _ _ ⟨g1, E, I1, he1, by rw [hx]; exact hex⟩

theorem loop_ok {X : Cx} {c : Code} {step : Env → St → Option Out} (hb : BodyOk X c step) (k : Nat) : BodyOk X (.loop c) (iterN k step) := by
  intro e A o h g w a I he Q hQ b K cs
  have key : ∀ k e A, iterN k step e A = some o → ∀ (g : Gh) (w : World) (a : Act), Inv g A w → EnvOk X.n g w e a → (∀ ex a' w', OutOk X.n g w o ex a' w' → Q ex a' w') →
      ∃ ex a' w', Q ex a' w' ∧ Arrives X.P (lone (b.at a (.code c :: .inLoop c :: K)) cs w) b K cs ex a' w' := by
    intro k
    induction k with
    | zero => intro e A h; simp [iterN] at h
    | succ k ih =>
      intro e A h g w a I he hQ
      simp only [iterN, Option.bind_eq_some_iff] at h
      obtain ⟨o1, h1, h⟩ := h
      obtain ⟨ex, a1, w1, ho, harr⟩ := hb e A o1 h1 g w a I he (OutOk X.n g w o1) (fun _ _ _ h => h) b (.inLoop c :: K) cs
      obtain ⟨g1, E, I1, he1, hex⟩ := ho
      have other : (∀ e', o1.ex ≠ e' ∨ e' ≠ .normal) → o1 = o → ex ≠ .normal → ∃ ex a' w', Q ex a' w' ∧ Arrives X.P (lone (b.at a (.code c :: .inLoop c :: K)) cs w) b K cs ex a' w' := by
        intro _ heq hne
        subst heq
        refine ⟨ex, a1, w1, hQ _ _ _ ⟨g1, E, I1, he1, hex⟩, ?_⟩
        exact .pass (x := .inLoop c) rfl (fun _ _ => .inl hne) harr
      cases hx : o1.ex with
      | normal =>
        rw [hx] at h hex
        cases ex <;> simp only [ExOk] at hex
        obtain ⟨ex2, a2, w2, hq2, harr2⟩ := ih o1.env o1.st h g1 w1 a1 I1 he1 fun ex a' w' ho => hQ _ _ _ (ho.ext E)
        exact ⟨ex2, a2, w2, hq2, .of_steps (Steps.trans harr (.one step_inLoop)) harr2⟩
      | exit id =>
        rw [hx] at h
        simp only [Option.some.injEq] at h
        exact other (fun e' => by rw [hx]; cases e' <;> simp) h (by rintro rfl; rw [hx] at hex; exact hex)
      | ret =>
        rw [hx] at h
        simp only [Option.some.injEq] at h
        exact other (fun e' => by rw [hx]; cases e' <;> simp) h (by rintro rfl; rw [hx] at hex; exact hex)
      | pan d =>
        rw [hx] at h
        simp only [Option.some.injEq] at h
        exact other (fun e' => by rw [hx]; cases e' <;> simp) h (by rintro rfl; rw [hx] at hex; exact hex)
  obtain ⟨ex, a', w', hq, harr⟩ := key k e A h g w a I he hQ
  exact ⟨ex, a', w', hq, .of_steps (.one step_loop) harr⟩

def ItOk (it : (Env → St → Option Out) → Env → St → Option Out) : Prop := ∀ step e A o, it step e A = some o → ∃ k, iterN k step e A = some o

theorem code_sim (X : Cx) (hc : CallOk X.P X.call) (hi : ItOk X.it) (hd : DrawOk X) : ∀ c : Code, BodyOk X c (codeD X c) := by
  intro c
  induction c with
  | skip =>
    intro e A o h g w a I he Q hQ
    simp only [codeD, Option.some.injEq] at h
    subst h
    exact wp_skip (hQ _ _ _ ⟨g, Ext.refl _ _, I, he, trivial⟩)
  | label l =>
    intro e A o h g w a I he Q hQ
    simp only [codeD, Option.some.injEq] at h
    subst h
    exact wp_label (hQ _ _ _ ⟨g, Ext.refl _ _, I, he, trivial⟩)
  | exit id =>
    intro e A o h g w a I he Q hQ
    simp only [codeD, Option.some.injEq] at h
    subst h
    exact wp_exit (hQ _ _ _ ⟨g, Ext.refl _ _, I, he, rfl⟩)
  | ret =>
    intro e A o h g w a I he Q hQ
    simp only [codeD, Option.some.injEq] at h
    subst h
    exact wp_ret (hQ _ _ _ ⟨g, Ext.refl _ _, I, he, trivial⟩)
  | region id ops draw =>
    intro e A o h g w a I he Q hQ
    simp only [codeD] at h
    cases draw with
    | false => exact wp_region_list (ops_sim X hc ops X.n ops.toList e A o h g w a I he Q hQ)
    | true => exact hd id ops e A o h g w a I he Q hQ
  | seq x y ihx ihy =>
    intro e A o h g w a I he Q hQ
    simp only [codeD, Option.bind_eq_some_iff] at h
    obtain ⟨o1, h1, h⟩ := h
    refine wp_seq (ihx e A o1 h1 g w a I he _ fun ex a' w' ⟨g1, E, I1, he1, hex⟩ => ?_)
    unfold Out.seq at h
    cases hx : o1.ex with
    | normal =>
      rw [hx] at h hex
      cases ex <;> simp only [ExOk] at hex
      exact ihy _ _ o h g1 w' a' I1 he1.expand Q fun ex a2 w2 ho => hQ _ _ _ (ho.ext E)
    | exit id =>
      rw [hx] at h hex
      simp only [Option.some.injEq] at h
      subst h
      cases ex <;> simp only [ExOk] at hex
      exact hQ _ _ _ ⟨g1, E, I1, he1, by simpa [ExOk] using hex⟩
    | ret =>
      rw [hx] at h hex
      simp only [Option.some.injEq] at h
      subst h
      cases ex <;> simp only [ExOk] at hex
      exact hQ _ _ _ ⟨g1, E, I1, he1, trivial⟩
    | pan d =>
      rw [hx] at h hex
      simp only [Option.some.injEq] at h
      subst h
      cases ex <;> simp only [ExOk] at hex
      exact hQ _ _ _ ⟨g1, E, I1, he1, hex⟩
  | cond c x y ihx ihy =>
    intro e A o h g w a I he Q hQ
    simp only [codeD, Option.bind_eq_some_iff] at h
    obtain ⟨t, ht, h⟩ := h
    have hv := bool?_rep ht (rep_eval he.t c)
    refine wp_cond hv ?_
    cases t
    · exact ihy e A o h g w a I he Q hQ
    · exact ihx e A o h g w a I he Q hQ
  | block id c ih =>
    intro e A o h g w a I he Q hQ
    simp only [codeD, Option.map_eq_some_iff] at h
    obtain ⟨o1, h1, rfl⟩ := h
    refine wp_block (ih e A o1 h1 g w a I he _ fun ex a' w' ⟨g1, E, I1, he1, hex⟩ => ?_)
    unfold Out.block at hQ
    cases hx : o1.ex with
    | normal =>
      rw [hx] at hQ hex
      cases ex <;> simp only [ExOk] at hex
      exact hQ _ _ _ ⟨g1, E, I1, he1, by rw [hx]; trivial⟩
    | exit i =>
      rw [hx] at hQ hex
      cases ex <;> simp only [ExOk] at hex
      rename_i j
      subst hex
      simp only [Exit.inBlock]
      split
      · rename_i e
        exact hQ _ _ _ ⟨g1, E, I1, he1, by simp [e, ExOk]⟩
      · rename_i e
        exact hQ _ _ _ ⟨g1, E, I1, he1, by simp [e, ExOk]⟩
    | ret =>
      rw [hx] at hQ hex
      cases ex <;> simp only [ExOk] at hex
      exact hQ _ _ _ ⟨g1, E, I1, he1, by rw [hx]; trivial⟩
    | pan d =>
      rw [hx] at hQ hex
      cases ex <;> simp only [ExOk] at hex
      exact hQ _ _ _ ⟨g1, E, I1, he1, by rw [hx]; exact hex⟩
  | loop c ih =>
    intro e A o h g w a I he Q hQ
    simp only [codeD] at h
    obtain ⟨k, hk⟩ := hi _ _ _ _ h
    exact loop_ok (step_ok ih _ _) k _ A o hk g w a I (he.mask _) Q hQ
  | rangeFunc f ps x y => intro e A o h; simp [codeD] at h
  | scope c => intro e A o h; simp [codeD] at h
  | goto l => intro e A o h; simp [codeD] at h
  | refuse s => intro e A o h; simp [codeD] at h
end Go.Vm
