/- VmDraw, VmDraw2, VmDraw3 in one text. -/
import Derived.Test.YtikjlgcbcljehaaGreatDoorVmFun
import Derived.Orders
set_option linter.all false
/- Regions that draw their order: every order comes to what the order of the text comes to. -/
namespace Go.Vm
open Go.RowKit
set_option linter.unusedVariables false

/-! an operation looks at its operands alone -/
theorem pureD_congr {P : Program} {e e' : List D} {op : Op} (h : ∀ x ∈ op.operands, evalO e x = evalO e' x) : pureD P e op = pureD P e' op := by
  have pairs : ∀ ps : Array (Nat × Operand), (∀ x ∈ ps.map (·.2), evalO e x = evalO e' x) → (ps.toList.map fun p => (p.1, evalO e p.2)) = (ps.toList.map fun p => (p.1, evalO e' p.2)) := fun ps hp =>
    List.map_congr_left fun p hm => by
      obtain ⟨i, x⟩ := p
      simp only [hp x (Array.mem_map.2 ⟨(i, x), by simpa using hm, rfl⟩)]
  have lst : ∀ ps : Array Operand, (∀ x ∈ ps, evalO e x = evalO e' x) → ps.toList.map (evalO e) = ps.toList.map (evalO e') := fun ps hp =>
    List.map_congr_left fun x hm => hp x (by simpa using hm)
  cases op <;> simp only [Op.operands] at h <;> simp only [pureD]
  case build t ps => rw [pairs ps fun x hx => h x (by simpa using hx)]
  case makeFunc f first cap => rw [lst first fun x hx => h x (by simp [hx]), lst cap fun x hx => h x (by simp [hx])]
  case slice t x lo hi mx => cases lo <;> cases hi <;> cases mx <;> simp_all
  case call c =>
    obtain ⟨callee, args, ts⟩ := c
    cases callee <;> (try simp only)
    rw [lst args fun x hx => h x (by simp [Call.operands, hx])]
  all_goals (first | rfl | (simp_all; done))
theorem worldD_congr {P : Program} {e e' : List D} {op : Op} (h : ∀ x ∈ op.operands, evalO e x = evalO e' x) (A : St) : worldD P e op A = worldD P e' op A := by
  have pairs : ∀ ps : Array (Nat × Operand), (∀ x ∈ ps.map (·.2), evalO e x = evalO e' x) → (ps.toList.map fun p => (p.1, evalO e p.2)) = (ps.toList.map fun p => (p.1, evalO e' p.2)) := fun ps hp =>
    List.map_congr_left fun p hm => by
      obtain ⟨i, x⟩ := p
      simp only [hp x (Array.mem_map.2 ⟨(i, x), by simpa using hm, rfl⟩)]
  cases op <;> simp only [Op.operands] at h <;> simp only [worldD]
  case buildSlice t n ps => rw [pairs ps fun x hx => h x (by simpa using hx)]
  case call c =>
    obtain ⟨callee, args, ts⟩ := c
    cases callee <;> (try simp only)
    rename_i b
    cases b <;> (try rfl)
    simp only
    have h' : ∀ x ∈ args.toList, evalO e x = evalO e' x := fun x hx => h x (by simp [Call.operands]; simpa using hx)
    split
    · rename_i x y hxy
      rw [hxy] at h'
      rw [h' x (by simp), h' y (by simp)]
    · rfl
  all_goals (first | rfl | (simp_all; done))
theorem valD_congr {P : Program} {e e' : List D} {op : Op} (h : ∀ x ∈ op.operands, evalO e x = evalO e' x) : valD P e op = valD P e' op := by
  unfold valD
  rw [pureD_congr h, worldD_congr h]
theorem callD_congr {call : FuncId → List D → St → ORes} {e e' : List D} {op : Op} (h : ∀ x ∈ op.operands, evalO e x = evalO e' x) (A : St) : callD call e op A = callD call e' op A := by
  have lst : ∀ ps : Array Operand, (∀ x ∈ ps, evalO e x = evalO e' x) → ps.toList.map (evalO e) = ps.toList.map (evalO e') := fun ps hp =>
    List.map_congr_left fun x hm => hp x (by simpa using hm)
  cases op <;> simp only [Op.operands] at h <;> simp only [callD]
  case panic x => rw [h x (by simp)]
  rename_i c
  obtain ⟨callee, args, ts⟩ := c
  cases callee <;> (try simp only)
  case value f =>
    rw [lst args fun x hx => h x (by simp [Call.operands, hx]), h f (by simp [Call.operands])]
  case builtin b =>
    cases b <;> (try rfl)
    simp only
    have h' : ∀ x ∈ args.toList, evalO e x = evalO e' x := fun x hx => h x (by simp [Call.operands]; simpa using hx)
    split
    · rename_i x hxy
      rw [hxy] at h'
      rw [h' x (by simp)]
    · rfl
theorem loadAddr_congr {e e' : List D} {op : Op} (h : ∀ x ∈ op.operands, evalO e x = evalO e' x) : loadAddr e op = loadAddr e' op := by
  cases op <;> simp only [Op.operands] at h <;> simp only [loadAddr]
  exact h _ (by simp)
theorem evalO_congr {e e' : List D} {ops : Array Oper} {o : Oper} (h : ∀ t ∈ looks ops o, e[t]? = e'[t]?) : ∀ x ∈ o.op.operands, evalO e x = evalO e' x := by
  intro x hx
  cases x with
  | tmp t =>
    have := h t (List.mem_append_left _ (List.mem_filterMap.2 ⟨.tmp t, by simpa using hx, rfl⟩))
    simp [evalO, List.getD, this]
  | _ => rfl
theorem wantedD_congr {e e' : List D} {ops : Array Oper} {o : Oper} (h : ∀ t ∈ looks ops o, e[t]? = e'[t]?) : wantedD ops e o = wantedD ops e' o := by
  unfold wantedD
  split
  · rfl
  · rename_i j want hg
    split
    · rename_i t ht
      have := h t (List.mem_append_right _ (by rw [hg]; simp [ht]))
      simp [List.getD, this]
    · rfl

/-! what stands before an operation in every order -/
theorem ancAll_closed {ops : Array Oper} {L : Nat → Bool} (hcl : ∀ i, L i = true → ∀ o, ops[i]? = some o → ∀ k ∈ bindsOn o, L k = true) :
    ∀ i, (∀ o, ops[i]? = some o → ∀ k ∈ bindsOn o, L k = true) → ∀ j ∈ (ancAll ops).getD i [], L j = true := by
  have gen : ∀ (os : List Oper) (acc : List (List Nat)), (∀ j, os[j]? = ops[acc.length + j]?) →
      (∀ i, i < acc.length → (∀ o, ops[i]? = some o → ∀ k ∈ bindsOn o, L k = true) → ∀ j ∈ acc.getD i [], L j = true) →
      ∀ i, (∀ o, ops[i]? = some o → ∀ k ∈ bindsOn o, L k = true) → ∀ j ∈ (os.foldl (fun acc o => acc ++ [((bindsOn o) ++ (bindsOn o).flatMap (fun j => acc.getD j [])).eraseDups]) acc).getD i [], L j = true := by
    intro os
    induction os with
    | nil =>
      intro acc _ hacc i hi j hj
      simp only [List.foldl_nil] at hj
      rcases Nat.lt_or_ge i acc.length with hlt | hge
      · exact hacc i hlt hi j hj
      · simp [List.getD, List.getElem?_eq_none hge] at hj
    | cons o os ih =>
      intro acc hos hacc i hi j hj
      simp only [List.foldl_cons] at hj
      refine ih _ (fun q => ?_) (fun i hlt hi j hj => ?_) i hi j hj
      · have := hos (q + 1)
        simp only [List.getElem?_cons_succ] at this
        rw [this]
        simp only [List.length_append, List.length_cons, List.length_nil]
        congr 1
        omega
      · simp only [List.length_append, List.length_cons, List.length_nil] at hlt
        rcases Nat.lt_or_ge i acc.length with h1 | h1
        · rw [List.getD, List.getElem?_append_left h1] at hj
          exact hacc i h1 hi j hj
        · have : i = acc.length := by omega
          subst this
          rw [List.getD, List.getElem?_append_right (Nat.le_refl _)] at hj
          simp only [Nat.sub_self, List.getElem?_cons_zero, Option.getD_some] at hj
          have hj := List.mem_eraseDups.1 hj
          have ho : ops[acc.length]? = some o := by have := hos 0; simpa using this.symm
          rcases List.mem_append.1 hj with hj | hj
          · exact hi o ho j hj
          · obtain ⟨k, hk, hjk⟩ := List.mem_flatMap.1 hj
            have hLk := hi o ho k hk
            rcases Nat.lt_or_ge k acc.length with h2 | h2
            · exact hacc k h2 (hcl k hLk) j hjk
            · simp [List.getD, List.getElem?_eq_none h2] at hjk
  intro i hi j hj
  exact gen ops.toList [] (fun j => by simp) (fun i hlt => by simp at hlt) i hi j hj
/-! the trace -/
/-- what one operation of the trace is -/
def StepIs (X : Cx) (ops : Array Oper) (o : Oper) (q : Nat) (e : List D) (A : St) (s : TStep) (stop : Option D) : Prop :=
  wantedD ops e o = some s.w ∧ s.A = A ∧
  match stop with
  | some p => drK X o.op = .eff ∧ opK X.P o.op = .call ∧ s.w = true ∧ callD X.call e o.op A = some (.pan p, s.A') ∧ s.d = .any
  | none =>
    (s.w = false → s.d = undefD) ∧
    match drK X o.op with
    | .val => s.A' = A ∧ (s.w = true → valD X.P e o.op = some s.d)
    | .load => s.A' = A ∧ (s.w = true → (worldD X.P e o.op A).map (·.1) = some s.d ∧ s.ad = loadAddr e o.op)
    | .wait => s.A' = A ∧ (s.w = true → waitD X.P o.op q A = some s.d ∧ s.ad = .ref q 0)
    | .eff => (s.w = false → s.A' = A) ∧ (s.w = true → (opK X.P o.op = .call ∧ callD X.call e o.op A = some (.ret s.d, s.A')) ∨ (opK X.P o.op = .world ∧ worldD X.P e o.op A = some (s.d, s.A')))
    | .bad => False
/-- the next of the slots that stand from the head on -/
def nq (X : Cx) (o : Oper) (q : Nat) : Nat := match drK X o.op with
  | .wait => q + 1
  | _ => q
/-- the slot that stands for an operation's variable -/
def sq (X : Cx) (ops : Array Oper) (q0 : Nat) : Nat → Nat
  | 0 => q0
  | m + 1 => match ops[m]? with
    | some o => nq X o (sq X ops q0 m)
    | none => sq X ops q0 m
def TraceIs (X : Cx) (ops : Array Oper) : List Oper → Nat → List D → St → List TStep → Option D → Prop
  | [], _, _, _, T, r => T = [] ∧ r = none
  | o :: os, q, e, A, T, r => ∃ s T', T = s :: T' ∧
      ((∃ p, r = some p ∧ T' = [] ∧ StepIs X ops o q e A s (some p)) ∨ (StepIs X ops o q e A s none ∧ TraceIs X ops os (nq X o q) (putD o.dst s.d e) s.A' T' r))
theorem trace_is (X : Cx) (ops : Array Oper) : ∀ (os : List Oper) (k : Nat) (e : List D) (A : St) (T : List TStep) (r : Option D), traceD X ops os k e A = some (T, r) → TraceIs X ops os k e A T r
  | [], k, e, A, T, r, h => by
    simp only [traceD, Option.some.injEq, Prod.mk.injEq] at h
    exact ⟨h.1.symm, h.2.symm⟩
  | o :: os, k, e, A, T, r, h => by
    simp only [traceD, Option.bind_eq_some_iff] at h
    obtain ⟨b, hb, h⟩ := h
    cases hk : drK X o.op with
    | val =>
      rw [hk] at h
      simp only [Option.bind_eq_some_iff, Option.map_eq_some_iff, Prod.mk.injEq] at h
      obtain ⟨d, hd, q, hq, rfl, rfl⟩ := h
      refine ⟨_, _, rfl, .inr ⟨⟨hb, rfl, ?_, ?_⟩, (by rw [show nq X o k = k by simp [nq, hk]]; exact trace_is X ops os _ _ _ _ _ hq)⟩⟩
      · intro hw; simp only at hw; subst hw; simpa using hd.symm
      · rw [hk]
        exact ⟨rfl, fun hw => by simp only at hw; subst hw; simpa using hd⟩
    | load =>
      rw [hk] at h
      simp only [Option.bind_eq_some_iff, Option.map_eq_some_iff, Prod.mk.injEq] at h
      obtain ⟨d, hd, q, hq, rfl, rfl⟩ := h
      refine ⟨_, _, rfl, .inr ⟨⟨hb, rfl, ?_, ?_⟩, (by rw [show nq X o k = k by simp [nq, hk]]; exact trace_is X ops os _ _ _ _ _ hq)⟩⟩
      · intro hw; simp only at hw; subst hw; simpa using hd.symm
      · rw [hk]
        exact ⟨rfl, fun hw => by simp only at hw; subst hw; exact ⟨by simpa using hd, rfl⟩⟩
    | bad => rw [hk] at h; cases h
    | wait =>
      rw [hk] at h
      simp only [Option.bind_eq_some_iff, Option.map_eq_some_iff, Prod.mk.injEq] at h
      obtain ⟨d, hd, q, hq, rfl, rfl⟩ := h
      refine ⟨_, _, rfl, .inr ⟨⟨hb, rfl, ?_, ?_⟩, (by rw [show nq X o k = k + 1 by simp [nq, hk]]; exact trace_is X ops os _ _ _ _ _ hq)⟩⟩
      · intro hw; simp only at hw; subst hw; simpa using hd.symm
      · rw [hk]
        exact ⟨rfl, fun hw => by simp only at hw; subst hw; exact ⟨by simpa using hd, rfl⟩⟩
    | eff =>
      rw [hk] at h
      simp only at h
      split at h
      · rename_i hc
        simp only [Option.bind_eq_some_iff] at h
        obtain ⟨⟨x, A1⟩, hx, h⟩ := h
        cases x with
        | ret d =>
          simp only [Res.elim, Option.map_eq_some_iff, Prod.mk.injEq] at h
          obtain ⟨q, hq, rfl, rfl⟩ := h
          refine ⟨_, _, rfl, .inr ⟨⟨hb, rfl, ?_, ?_⟩, (by rw [show nq X o k = k by simp [nq, hk]]; exact trace_is X ops os _ _ _ _ _ hq)⟩⟩
          · intro hw; simp only at hw; subst hw
            simp only [cond_false, Option.some.injEq, Prod.mk.injEq, Res.ret.injEq] at hx
            exact hx.1.symm
          · rw [hk]
            refine ⟨fun hw => ?_, fun hw => ?_⟩
            · simp only at hw; subst hw
              simp only [cond_false, Option.some.injEq, Prod.mk.injEq] at hx
              exact hx.2.symm
            · simp only at hw; subst hw
              exact .inl ⟨hc, by simpa using hx⟩
        | pan p =>
          simp only [Res.elim, Option.some.injEq, Prod.mk.injEq] at h
          obtain ⟨rfl, rfl⟩ := h
          cases b with
          | false => simp at hx
          | true => exact ⟨_, _, rfl, .inl ⟨p, rfl, rfl, hb, rfl, hk, hc, rfl, by simpa using hx, rfl⟩⟩
      · rename_i hc
        simp only [Option.bind_eq_some_iff, Option.map_eq_some_iff, Prod.mk.injEq] at h
        obtain ⟨⟨d, A1⟩, hx, q, hq, rfl, rfl⟩ := h
        refine ⟨_, _, rfl, .inr ⟨⟨hb, rfl, ?_, ?_⟩, (by rw [show nq X o k = k by simp [nq, hk]]; exact trace_is X ops os _ _ _ _ _ hq)⟩⟩
        · intro hw; simp only at hw; subst hw
          simp only [cond_false, Option.some.injEq, Prod.mk.injEq] at hx
          exact hx.1.symm
        · rw [hk]
          refine ⟨fun hw => ?_, fun hw => ?_⟩
          · simp only at hw; subst hw
            simp only [cond_false, Option.some.injEq, Prod.mk.injEq] at hx
            exact hx.2.symm
          · simp only at hw; subst hw
            refine .inr ⟨?_, by simpa using hx⟩
            unfold drK at hk
            split at hk
            · cases hk
            · assumption
            · exact absurd (by assumption) hc
            · cases hk
/-- the value that an operation puts; nothing is known of one behind a panic -/
def tv (T : List TStep) (i : Nat) : D := ((T[i]?).map (·.d)).getD .any
/-- the store ahead of an operation -/
def tA (A : St) (T : List TStep) (i : Nat) : St := (((T.take i).getLast?).map (·.A')).getD A
/-- the slots behind those listed among the first m -/
def envLm (ops : Array Oper) (T : List TStep) (e : List D) (L : Nat → Bool) : Nat → List D
  | 0 => e
  | m + 1 => cond (L m) (putD ((ops[m]?).bind (·.dst)) (tv T m) (envLm ops T e L m)) (envLm ops T e L m)
theorem tA_zero (A : St) (T : List TStep) : tA A T 0 = A := by simp [tA]
theorem tA_succ (A : St) (T : List TStep) (i : Nat) (s : TStep) (h : T[i]? = some s) : tA A T (i + 1) = s.A' := by
  have hl := (List.getElem?_eq_some_iff.1 h).1
  simp only [tA]
  rw [List.take_succ_eq_append_getElem hl]
  simp [(List.getElem?_eq_some_iff.1 h).2]
theorem tA_end (A : St) (T : List TStep) (n : Nat) (h : T.length ≤ n) : tA A T n = ((T.getLast?).map (·.A')).getD A := by
  simp [tA, List.take_of_length_le h]
theorem envLm_length (ops : Array Oper) (T : List TStep) (e : List D) (L : Nat → Bool) : ∀ m, (envLm ops T e L m).length = e.length
  | 0 => rfl
  | m + 1 => by
    simp only [envLm]
    cases L m
    · exact envLm_length ops T e L m
    · simp only [cond_true, putD]
      split
      · rw [List.length_set]; exact envLm_length ops T e L m
      · exact envLm_length ops T e L m
/-- the trace, operation by operation -/
theorem trace_get {X : Cx} {ops : Array Oper} : ∀ {os : List Oper} {q : Nat} {e : List D} {A : St} {T : List TStep} {r : Option D} (k : Nat), TraceIs X ops os q e A T r → (∀ j, os[j]? = ops[k + j]?) →
    ∀ (T0 : List TStep) (q0 : Nat) (e0 : List D) (A0 : St) (L : Nat → Bool), T0.length = k → q = sq X ops q0 k → e = envLm ops (T0 ++ T) e0 L k → (∀ j, k ≤ j → j < k + T.length → L j = true) → A = tA A0 (T0 ++ T) k →
    (∀ i s, T[i]? = some s → ∃ o, ops[k + i]? = some o ∧ StepIs X ops o (sq X ops q0 (k + i)) (envLm ops (T0 ++ T) e0 L (k + i)) (tA A0 (T0 ++ T) (k + i)) s (if i + 1 = T.length then r else none)) ∧
    (r = none → T.length = os.length) ∧ T.length ≤ os.length ∧ (r.isSome → 0 < T.length)
  | [], q, e, A, T, r, k, h, hos, T0, q0, e0, A0, L, hT0, hq, he, hL, hA => by
    obtain ⟨rfl, rfl⟩ := h
    exact ⟨fun i s hi => by simp at hi, fun _ => rfl, Nat.le_refl _, fun h => by simp at h⟩
  | o :: os, q, e, A, T, r, k, h, hos, T0, q0, e0, A0, L, hT0, hq, he, hL, hA => by
    obtain ⟨s, T', rfl, h⟩ := h
    have ho : ops[k]? = some o := by have := hos 0; simpa using this.symm
    rcases h with ⟨p, rfl, rfl, hs⟩ | ⟨hs, ht⟩
    · refine ⟨fun i s' hi => ?_, fun h => by simp at h, by simp, fun _ => by simp⟩
      cases i with
      | succ i => simp at hi
      | zero =>
        simp only [List.getElem?_cons_zero, Option.some.injEq] at hi
        subst hi
        refine ⟨o, ho, ?_⟩
        rw [if_pos (by simp)]
        rw [Nat.add_zero, ← hq, ← he, ← hA]
        exact hs
    · have e1 : T0 ++ s :: T' = (T0 ++ [s]) ++ T' := by simp
      have hget : (T0 ++ s :: T')[k]? = some s := by rw [List.getElem?_append_right (by omega)]; simp [hT0]
      have hLk := hL k (Nat.le_refl _) (by simp)
      have he' : putD o.dst s.d e = envLm ops ((T0 ++ [s]) ++ T') e0 L (k + 1) := by
        rw [← e1]
        simp only [envLm, hLk, cond_true, ho, Option.bind_some, tv, hget, Option.map_some, Option.getD_some]
        rw [← he]
      have hA' : s.A' = tA A0 ((T0 ++ [s]) ++ T') (k + 1) := by
        rw [← e1, tA_succ _ _ _ _ hget]
      obtain ⟨h1, h2, h3, h4⟩ := trace_get (k + 1) ht (fun j => by have := hos (j + 1); simp only [List.getElem?_cons_succ] at this; rw [this]; congr 1; omega) (T0 ++ [s]) q0 e0 A0 L (by simp [hT0]) (by simp only [sq, ho]; rw [← hq]) he'
        (fun j j1 j2 => hL j (by omega) (by simp; omega)) hA'
      refine ⟨fun i s' hi => ?_, fun h => by simp [h2 h], by simp; omega, fun h => by simp⟩
      cases i with
      | zero =>
        simp only [List.getElem?_cons_zero, Option.some.injEq] at hi
        subst hi
        refine ⟨o, ho, ?_⟩
        rw [Nat.add_zero, ← hq, ← he, ← hA]
        by_cases hz : 0 + 1 = (s :: T').length
        · rw [if_pos hz]
          have : T' = [] := List.eq_nil_of_length_eq_zero (by simp only [List.length_cons] at hz; omega)
          subst this
          have : r = none := by
            cases r with
            | none => rfl
            | some p => have := h4 rfl; simp at this
          rw [this]
          exact hs
        · rw [if_neg hz]; exact hs
      | succ i =>
        obtain ⟨o', q1, q2⟩ := h1 i s' (by simpa using hi)
        refine ⟨o', by rw [show k + (i + 1) = k + 1 + i by omega]; exact q1, ?_⟩
        rw [show k + (i + 1) = k + 1 + i by omega, e1]
        have : (i + 1 + 1 = (s :: T').length) ↔ (i + 1 = T'.length) := by simp
        simpa only [this] using q2
/-! which have been carried out -/
theorem put_get (dst : Option Tmp) (d : D) (e : List D) (t : Nat) (h : dst ≠ some t) : (putD dst d e)[t]? = e[t]? := by
  cases dst with
  | none => rfl
  | some q =>
    simp only [putD, List.getElem?_set]
    rw [if_neg (fun e => h (by rw [e]))]
theorem put_get_same (d : D) (e e' : List D) (t : Nat) (hl : e.length = e'.length) : (putD (some t) d e)[t]? = (putD (some t) d e')[t]? := by
  simp [putD, List.getElem?_set, hl]
/-- a slot holds the same behind two sets of operations that hold the same writers of it -/
theorem env_agree {ops : Array Oper} {T : List TStep} {e : List D} {L L' : Nat → Bool} {t : Nat} : ∀ m, (∀ j, j < m → (ops[j]?).bind (·.dst) = some t → L j = L' j) → (envLm ops T e L m)[t]? = (envLm ops T e L' m)[t]?
  | 0, _ => rfl
  | m + 1, h => by
    have ih := env_agree (T := T) (e := e) m fun j hj => h j (by omega)
    simp only [envLm]
    by_cases hd : (ops[m]?).bind (·.dst) = some t
    · have := h m (by omega) hd
      rw [this]
      cases L' m
      · exact ih
      · simp only [cond_true, hd]
        exact put_get_same _ _ _ _ (by rw [envLm_length, envLm_length])
    · have h1 : ∀ (b : Bool) (x : List D), (cond b (putD ((ops[m]?).bind (·.dst)) (tv T m) x) x)[t]? = x[t]? := by
        intro b x
        cases b
        · rfl
        · exact put_get _ _ _ _ hd
      rw [h1, h1]
      exact ih
/-- one more -/
theorem env_more {ops : Array Oper} {T : List TStep} {e : List D} {L L' : Nat → Bool} {i : Nat} (hi : L i = false) (hi' : L' i = true) (hne : ∀ j, j ≠ i → L' j = L j)
    : ∀ m, i < m → (∀ j, i < j → j < m → L j = true → ∀ t, (ops[j]?).bind (·.dst) = some t → (ops[i]?).bind (·.dst) ≠ some t) → envLm ops T e L' m = putD ((ops[i]?).bind (·.dst)) (tv T i) (envLm ops T e L m)
  | 0, h, _ => by omega
  | m + 1, h, hw => by
    simp only [envLm]
    by_cases e1 : m = i
    · subst e1
      rw [hi', hi]
      simp only [cond_true, cond_false]
      congr 1
      have : ∀ q, q ≤ m → envLm ops T e L' q = envLm ops T e L q := by
        intro q
        induction q with
        | zero => intro _; rfl
        | succ q ih => intro hq; simp only [envLm, ih (by omega), hne q (by omega)]
      exact this m (Nat.le_refl _)
    · rw [env_more hi hi' hne m (by omega) fun j h1 h2 => hw j h1 (by omega), hne m e1]
      cases hL : L m
      · rfl
      · simp only [cond_true]
        have hmw := hw m (by omega) (by omega) hL
        generalize (ops[i]?).bind (·.dst) = di at hmw ⊢
        cases hdm : (ops[m]?).bind (·.dst) with
        | none => rfl
        | some t =>
          have := hmw t hdm
          cases di with
          | none => rfl
          | some q =>
            simp only [putD]
            rw [List.set_comm]
            intro e
            exact this (by rw [e])
/-- the store behind the effects listed among the first m -/
def stLm (P : Cx) (ops : Array Oper) (A : St) (T : List TStep) (L : Nat → Bool) : Nat → St
  | 0 => A
  | m + 1 => cond (L m && (ops[m]?).any (isEff P)) (tA A T (m + 1)) (stLm P ops A T L m)
theorem st_agree {P : Cx} {ops : Array Oper} {A : St} {T : List TStep} {L L' : Nat → Bool} : ∀ m, (∀ j, j < m → (ops[j]?).any (isEff P) = true → L j = L' j) → stLm P ops A T L m = stLm P ops A T L' m
  | 0, _ => rfl
  | m + 1, h => by
    simp only [stLm, st_agree m fun j hj => h j (by omega)]
    cases he : (ops[m]?).any (isEff P)
    · simp
    · rw [h m (by omega) he]
/-- behind all effects ahead of x: the store ahead of x -/
theorem st_upto {P : Cx} {ops : Array Oper} {A : St} {T : List TStep} (x : Nat) (hch : ∀ m, m < x → (ops[m]?).any (isEff P) = false → tA A T (m + 1) = tA A T m) :
    ∀ m, stLm P ops A T (fun j => decide (j < x)) m = tA A T (min m x)
  | 0 => by simp [stLm, tA_zero]
  | m + 1 => by
    simp only [stLm, st_upto x hch m]
    by_cases hm : m < x
    · have h1 : min (m + 1) x = m + 1 := by omega
      have h2 : min m x = m := by omega
      rw [h1, h2]
      cases he : (ops[m]?).any (isEff P)
      · simp [hch m hm he]
      · simp [hm]
    · have h1 : min (m + 1) x = x := by omega
      have h2 : min m x = x := by omega
      simp [hm, h1, h2]
/-- a slot of the store that no effect between two places turns -/
theorem slot_between {P : Cx} {ops : Array Oper} {A : St} {T : List TStep} {k : Nat} (x : Nat) : ∀ d, (∀ m, x ≤ m → m < x + d → (tA A T (m + 1))[k]? = (tA A T m)[k]?) → (tA A T (x + d))[k]? = (tA A T x)[k]?
  | 0, _ => rfl
  | d + 1, h => by
    rw [show x + (d + 1) = x + d + 1 by omega, h (x + d) (by omega) (by omega)]
    exact slot_between (P := P) (ops := ops) x d fun m h1 h2 => h m h1 (by omega)
/-- the first effect not listed -/
theorem first_loose {P : Cx} {ops : Array Oper} (L : Nat → Bool) : ∀ n, ∃ x, x ≤ n ∧ (∀ m, m < x → (ops[m]?).any (isEff P) = true → L m = true) ∧ (x < n → (ops[x]?).any (isEff P) = true ∧ L x = false)
  | 0 => ⟨0, Nat.le_refl _, fun m h => by omega, fun h => by omega⟩
  | n + 1 => by
    obtain ⟨x, h1, h2, h3⟩ := first_loose (P := P) (ops := ops) L n
    by_cases hx : x < n
    · exact ⟨x, by omega, h2, fun _ => h3 hx⟩
    · have : x = n := by omega
      subst this
      by_cases hc : (ops[x]?).any (isEff P) = true ∧ L x = false
      · exact ⟨x, by omega, h2, fun _ => hc⟩
      · refine ⟨x + 1, by omega, fun m hm he => ?_, fun h => by omega⟩
        by_cases e : m = x
        · subst e
          cases hL : L m
          · exact absurd ⟨he, hL⟩ hc
          · rfl
        · exact h2 m (by omega) he
/-- the store at a load's slot is what it was in the order of the text -/
theorem load_slot {P : Cx} {ops : Array Oper} {A : St} {T : List TStep} {L : Nat → Bool} {i N : Nat} (hN : N = ops.size) (hiN : i ≤ N)
    (hch : ∀ m, m < N → (ops[m]?).any (isEff P) = false → tA A T (m + 1) = tA A T m)
    (hord : ∀ m m', m < m' → (ops[m]?).any (isEff P) = true → (ops[m']?).any (isEff P) = true → L m' = true → L m = true) (k : Nat)
    (hsame : ∀ m, (ops[m]?).any (isEff P) = true → (m < i → L m = false) → (i < m → L m = true) → m ≠ i → (tA A T (m + 1))[k]? = (tA A T m)[k]?) (hie : (ops[i]?).any (isEff P) = false) :
    (stLm P ops A T L N)[k]? = (tA A T i)[k]? := by
  obtain ⟨x, hx, h1, h2⟩ := first_loose (P := P) (ops := ops) L N
  have hagree : ∀ j, j < N → (ops[j]?).any (isEff P) = true → L j = decide (j < x) := by
    intro j hj he
    by_cases hjx : j < x
    · simp [hjx, h1 j hjx he]
    · simp only [hjx, decide_false]
      by_cases hxN : x < N
      · obtain ⟨q1, q2⟩ := h2 hxN
        by_cases e : j = x
        · subst e; exact q2
        · cases hL : L j
          · rfl
          · have := hord x j (by omega) q1 he hL
            rw [q2] at this; cases this
      · omega
  rw [st_agree N hagree, st_upto x (fun m hm => hch m (by omega)) N, Nat.min_eq_right hx]
  -- a step that is no effect turns nothing
  have step : ∀ m, m < N → ((ops[m]?).any (isEff P) = true → (tA A T (m + 1))[k]? = (tA A T m)[k]?) → (tA A T (m + 1))[k]? = (tA A T m)[k]? := by
    intro m hm h
    cases he : (ops[m]?).any (isEff P)
    · rw [hch m hm he]
    · exact h he
  rcases Nat.le_total x i with hxi | hix
  · have := slot_between (P := P) (ops := ops) (A := A) (T := T) (k := k) x (i - x) fun m m1 m2 => step m (by omega) fun he => by
      refine hsame m he (fun _ => ?_) (fun h => by omega) (by omega)
      rw [hagree m (by omega) he]; simp; omega
    rw [show x + (i - x) = i by omega] at this
    exact this.symm
  · have := slot_between (P := P) (ops := ops) (A := A) (T := T) (k := k) i (x - i) fun m m1 m2 => step m (by omega) fun he => by
      refine hsame m he (fun h => by omega) (fun _ => ?_) (fun e => by subst e; rw [hie] at he; cases he)
      rw [hagree m (by omega) he]; simp; omega
    rw [show i + (x - i) = x by omega] at this
    exact this
end Go.Vm

/- Regions that draw their order: the theorem. -/
namespace Go.Vm
open Go.RowKit
set_option linter.unusedVariables false

theorem all_zipIdx {α : Type} {xs : Array α} {f : α × Nat → Bool} (h : xs.toList.zipIdx.all f = true) {i : Nat} {x : α} (hx : xs[i]? = some x) : f (x, i) = true := by
  refine List.all_eq_true.1 h (x, i) ?_
  rw [List.mem_zipIdx_iff_getElem?]
  simpa using hx
theorem ancAll_lt {ops : Array Oper} (hb : ∀ (i : Nat) o, ops[i]? = some o → ∀ k ∈ bindsOn o, k < i) (m : Nat) : ∀ j ∈ (ancAll ops).getD m [], j < m := by
  have := ancAll_closed (ops := ops) (L := fun j => decide (j < m)) (fun i hi o ho k hk => by
    have := hb i o ho k hk
    simp only [decide_eq_true_eq] at hi ⊢
    omega) m fun o ho k hk => by simpa using hb m o ho k hk
  intro j hj
  simpa using this j hj
theorem env_upto {ops : Array Oper} {T : List TStep} {e : List D} (i : Nat) : ∀ n, envLm ops T e (fun m => decide (m < i)) n = envLm ops T e (fun _ => true) (min n i)
  | 0 => by simp [envLm]
  | n + 1 => by
    simp only [envLm, env_upto i n]
    by_cases h : n < i
    · have h1 : min (n + 1) i = n + 1 := by omega
      have h2 : min n i = n := by omega
      rw [h1, h2]
      simp [h, envLm]
    · have h1 : min (n + 1) i = i := by omega
      have h2 : min n i = i := by omega
      simp [h, h1, h2]
def cntm (L : Nat → Bool) : Nat → Nat
  | 0 => 0
  | m + 1 => cntm L m + cond (L m) 0 1
theorem cnt_zero {L : Nat → Bool} : ∀ {n}, cntm L n = 0 → ∀ i, i < n → L i = true
  | 0, _, i, h => by omega
  | n + 1, h, i, hi => by
    simp only [cntm] at h
    by_cases e : i = n
    · subst e
      cases hL : L i
      · rw [hL] at h; simp at h
      · rfl
    · exact cnt_zero (n := n) (by omega) i (by omega)
theorem cnt_more {L L' : Nat → Bool} {i : Nat} (hi : L i = false) (hi' : L' i = true) (hne : ∀ j, j ≠ i → L' j = L j) : ∀ n, i < n → cntm L' n + 1 = cntm L n
  | 0, h => by omega
  | n + 1, h => by
    simp only [cntm]
    by_cases e : n = i
    · subst e
      have : ∀ q, q ≤ n → cntm L' q = cntm L q := by
        intro q
        induction q with
        | zero => intro _; rfl
        | succ q ih => intro hq; simp only [cntm, ih (by omega), hne q (by omega)]
      rw [this n (Nat.le_refl _), hi, hi']
      simp
    · have := cnt_more hi hi' hne n (by omega)
      rw [hne n e]
      omega
theorem least_loose {L : Nat → Bool} : ∀ n, (∀ i, i < n → L i = true) ∨ ∃ i, i < n ∧ L i = false ∧ ∀ k, k < i → L k = true
  | 0 => .inl fun i h => by omega
  | n + 1 => by
    rcases least_loose (L := L) n with h | ⟨i, h1, h2, h3⟩
    · cases hL : L n
      · exact .inr ⟨n, by omega, hL, h⟩
      · exact .inl fun i hi => by
          by_cases e : i = n
          · subst e; exact hL
          · exact h i (by omega)
    · exact .inr ⟨i, by omega, h2, h3⟩
theorem loadD_congr {P : Program} {t : TypeId} {ad : D} {A1 A2 : St} (h : ∀ k off, ad = .ref k off → A1[k]? = A2[k]?) : loadD P t ad A1 = loadD P t ad A2 := by
  unfold loadD loadO
  cases ad <;> try rfl
  rename_i k off
  simp only [h k off rfl]
theorem foldEnv_append (a b : List (Oper × TStep)) (e : List D) : foldEnv (a ++ b) e = foldEnv b (foldEnv a e) := by
  induction a generalizing e with
  | nil => rfl
  | cons x a ih => obtain ⟨o, s⟩ := x; simp only [List.cons_append, foldEnv, ih]
theorem env_full {ops : Array Oper} {T : List TStep} {e : List D} {L : Nat → Bool} (hT : T.length = ops.size) (hL : ∀ i, i < ops.size → L i = true) : ∀ m, m ≤ ops.size → envLm ops T e L m = foldEnv ((ops.toList.zip T).take m) e
  | 0, _ => rfl
  | m + 1, h => by
    have h1 : m < ops.size := by omega
    have h2 : m < T.length := by omega
    have hz : m < (ops.toList.zip T).length := by simp; omega
    rw [List.take_succ_eq_append_getElem hz, foldEnv_append, ← env_full hT hL m (by omega)]
    simp only [envLm, hL m h1, cond_true, List.getElem_zip, foldEnv, Array.getElem_toList]
    simp [h1, tv, h2]
theorem forget_get : ∀ (os : List Oper) (e : List D) (t : Nat), (∀ o ∈ os, o.dst ≠ some t) → (forgetEnv os e)[t]? = e[t]?
  | [], e, t, _ => rfl
  | o :: os, e, t, h => by
    simp only [forgetEnv]
    rw [forget_get os _ t fun o' ho => h o' (by simp [ho]), put_get _ _ _ _ (h o (by simp))]
theorem forget_length : ∀ (os : List Oper) (e : List D), (forgetEnv os e).length = e.length
  | [], e => rfl
  | o :: os, e => by
    simp only [forgetEnv]
    rw [forget_length]
    unfold putD
    split <;> simp
theorem forget_any : ∀ (os : List Oper) (e : List D) (t : Nat), (∃ o ∈ os, o.dst = some t) → ∀ d, (forgetEnv os e)[t]? = some d → d = .any
  | [], e, t, h, d, hd => by obtain ⟨o, ho, _⟩ := h; simp at ho
  | o :: os, e, t, h, d, hd => by
    simp only [forgetEnv] at hd
    by_cases hex : ∃ o ∈ os, o.dst = some t
    · exact forget_any os _ t hex d hd
    · rw [forget_get os _ t fun o' ho e => hex ⟨o', ho, e⟩] at hd
      obtain ⟨o', ho', he⟩ := h
      rcases List.mem_cons.1 ho' with rfl | h
      · rw [he] at hd
        simp only [putD, List.getElem?_set] at hd
        simp only [if_true] at hd
        split at hd
        · cases hd; rfl
        · cases hd
      · exact absurd ⟨o', h, he⟩ hex
theorem env_none {ops : Array Oper} {T : List TStep} {e : List D} {L : Nat → Bool} {t : Nat} (h : ∀ o ∈ ops.toList, o.dst ≠ some t) : ∀ m, (envLm ops T e L m)[t]? = e[t]?
  | 0 => rfl
  | m + 1 => by
    simp only [envLm]
    cases L m
    · exact env_none h m
    · simp only [cond_true]
      rw [put_get, env_none h m]
      cases ho : ops[m]? with
      | none => simp
      | some o => simpa using h o (by simpa using Array.mem_of_getElem? ho)
theorem allSame_mem {T : List TStep} : ∀ {ps : List (Nat × Nat)}, allSame T ps → ∀ p ∈ ps, sameAt T p
  | [], _, p, hp => by simp at hp
  | q :: ps, h, p, hp => by
    rcases List.mem_cons.1 hp with rfl | hp
    · exact h.1
    · exact allSame_mem h.2 p hp
theorem rep_noRoom {g : Gh} {w : World} {o : Own} {es : Nat} {ds : List D} {v : Value} (h : Rep g w (.sl o es ds) v) : Rep g w (.sl .sh es ds) v := by
  unfold Rep at h ⊢
  obtain ⟨a, cap, h1, h2, h3, h4⟩ := h
  exact ⟨a, cap, h1, h2, trivial, h4⟩
theorem Kept_append' (A B : St) : Kept A (A ++ B) :=
  ⟨by simp, fun k hk => .inl (List.getElem?_append_left hk)⟩
/-- an append without its room: in whatever store -/
theorem append_any {n b : Nat} {x y d : D} {A1 : St} (h : appendO n b x y [] = some (d, A1)) (A : St) :
    ∃ o0 es0 ds new o B, x = .sl o0 es0 ds ∧ appendNew n y = some new ∧ (∃ o1, d = .sl o1 n (ds ++ new)) ∧ appendO n b x y A = some (.sl o n (ds ++ new), A ++ B) := by
  have hnv : ∀ k off es len, x ≠ .vsl k off es len := by
    rintro k off es len rfl
    simp [appendO, appendVO] at h
  have e : ∀ A, appendO n b x y A = appendS n b x y A := by
    intro A
    unfold appendO
    split
    · exact absurd rfl (hnv _ _ _ _)
    · rfl
  rw [e] at h ⊢
  unfold appendS at h ⊢
  simp only [Option.bind_eq_some_iff] at h
  obtain ⟨new, hn, h⟩ := h
  rw [hn]
  simp only [Option.bind_some]
  cases x <;> simp only [reduceCtorEq] at h
  rename_i o0 es0 ds
  split at h
  · rename_i hc
    simp only
    simp only [if_pos hc]
    cases o0 with
    | full =>
      simp only at h ⊢
      split at h
      · rename_i he
        simp only [Option.some.injEq, Prod.mk.injEq] at h
        have : new = [] := by simpa using he
        subst this
        exact ⟨.full, es0, ds, [], .full, [], rfl, rfl, ⟨_, by simpa using h.1.symm⟩, by simp⟩
      · rename_i he
        simp only [Option.some.injEq, Prod.mk.injEq] at h
        exact ⟨.full, es0, ds, new, .own A.length 0, _, rfl, rfl, ⟨_, h.1.symm⟩, by rw [if_neg he]⟩
    | sh =>
      simp only at h ⊢
      split at h
      · rename_i he
        simp only [Option.some.injEq, Prod.mk.injEq] at h
        have : new = [] := by simpa using he
        subst this
        exact ⟨.sh, es0, ds, [], .sh, [], rfl, rfl, ⟨_, by simpa using h.1.symm⟩, by simp⟩
      · cases h
    | own c s => simp at h
  · cases h
theorem val_sim {X : Cx} {o : Oper} {e : List D} {a : Act} {d : D} (hk : drK X o.op = .val) (hp : opK X.P o.op ≠ .pure) (h : valD X.P e o.op = some d) {gh : Gh} {w : World} {A : St} (I : Inv gh A w)
    (he : RepL gh w e a.tmps.toList) : ∃ nx w' g', (execOp a.eval o).run X.P w = .ok nx w' ∧ NextOk g' w' d nx ∧ Ext gh w g' w' ∧ Inv g' A w' := by
  have hw : ∀ d', worldD X.P e o.op A = some (d', A) → d' = d → ∃ nx w' g', (execOp a.eval o).run X.P w = .ok nx w' ∧ NextOk g' w' d nx ∧ Ext gh w g' w' ∧ Inv g' A w' := by
    intro d' h1 h2
    subst h2
    exact world_sim h1 I he
  unfold valD at h
  unfold drK at hk
  cases hopk : opK X.P o.op <;> rw [hopk] at hk hp h <;> simp only [reduceCtorEq] at hk
  · exact absurd rfl hp
  · cases hop : o.op <;> rw [hop] at hk h hw <;> (try (simp only [reduceCtorEq] at hk; done))
    case alloc t => cases hva : X.h.waitAl <;> simp [hva] at hk
    case buildSlice t n ps =>
      simp only [worldD, Option.map_eq_some_iff, Prod.mk.injEq] at h
      obtain ⟨_, ⟨d', h, rfl⟩, h3⟩ := h
      refine hw d (by simp only [worldD, Option.map_eq_some_iff, Prod.mk.injEq]; exact ⟨d', h, h3, trivial⟩) rfl
    case convert s t x =>
      simp only [worldD, Option.map_eq_some_iff, Prod.mk.injEq] at h
      obtain ⟨_, ⟨d', h, rfl⟩, h3⟩ := h
      refine hw d (by simp only [worldD, Option.map_eq_some_iff, Prod.mk.injEq]; exact ⟨d', h, h3, trivial⟩) rfl
    case call c =>
      have hcall : ∃ args ts, c = ⟨.builtin .append, args, ts⟩ := by
        obtain ⟨callee, args, ts⟩ := c
        cases callee <;> (try (simp only [reduceCtorEq] at hk; done))
        rename_i b
        cases b <;> (try (simp only [reduceCtorEq] at hk; done))
        exact ⟨args, ts, rfl⟩
      obtain ⟨args, ts, rfl⟩ := hcall
      simp only [Option.bind_eq_some_iff] at h
      obtain ⟨⟨d0, A1⟩, h, hs⟩ := h
      simp only [worldD] at h
      split at h
      · rename_i x y hxy
        have ev := fun x => rep_eval he x
        have hxr := ev x
        have hyr := ev y
        unfold appendD at h
        split at h
        · rename_i t u hts
          simp only [Option.bind_eq_some_iff] at h
          obtain ⟨r, hr, b, hb, z, hz, h⟩ := h
          split at h
          · rename_i hc
            obtain ⟨o0, es0, ds, new, o1, B, hx, hn, ⟨o2, hd0⟩, hA⟩ := append_any h A
            subst hd0
            simp only [shV, Option.some.injEq] at hs
            subst hs
            have hwd : worldD X.P e o.op A = some (.sl o1 r.2.1 (ds ++ new), A ++ B) := by
              rw [hop]
              simp only [worldD, hxy]
              simp only [hts, appendD, hr, hb, hz, Option.bind_some, if_pos hc, hA]
            obtain ⟨nx, w', g', h1, h2, h3, h4⟩ := world_sim hwd I he
            obtain ⟨E', I', K⟩ := Inv.trunc I h3 h4 ((Kept_append' A B))
            rw [List.take_left] at I'
            refine ⟨nx, w', _, h1, ?_, E', I'⟩
            cases nx <;> simp only [NextOk] at h2
            case skip => cases h2
            case value zv =>
              have h5 := Rep.keep K _ zv h2
              have hsx : D.shutL gh.len ds = ds := by
                rw [hx] at hxr
                have := Rep.shut_id (Nat.le_refl gh.len) _ _ hxr
                simp only [D.shut, D.sl.injEq] at this
                exact this.2.2
              have hsy : D.shutL gh.len new = new := by
                unfold appendNew at hn
                split at hn
                · rename_i o3 es3 ds3 hy3
                  split at hn
                  · cases hn
                    rw [hy3] at hyr
                    have := Rep.shut_id (Nat.le_refl gh.len) _ _ hyr
                    simp only [D.shut, D.sl.injEq] at this
                    exact this.2.2
                  · cases hn
                · split at hn
                  · cases hn
                    rw [shutL_eq]
                    unfold strBytes
                    rw [List.map_map]
                    rfl
                  · cases hn
                · cases hn
              have h6 : (D.sl o1 r.2.1 (ds ++ new)).shut gh.len = .sl (o1.shut gh.len) r.2.1 (ds ++ new) := by
                simp only [D.shut, D.sl.injEq, true_and]
                rw [shutL_eq, List.map_append, ← shutL_eq, ← shutL_eq, hsx, hsy]
              simp only [NextOk]
              have h7 : Rep { g' with len := gh.len } w' ((D.sl o1 r.2.1 (ds ++ new)).shut gh.len) zv := h5
              rw [h6] at h7
              exact rep_noRoom h7
          · cases h
        · cases h
      · cases h
/-! variables whose slot stands from the head on -/
theorem Keeps.rep {g g' : Gh} {w w' : World} (K : Keeps g w g' w') (hl : g'.len = g.len) {d : D} {v : Value} (h : Rep g w d v) : Rep g' w' d v := by
  have := Rep.keep K d v h
  rwa [hl, Rep.shut_id (Nat.le_refl _) d v h] at this
theorem Keeps.repL {g g' : Gh} {w w' : World} (K : Keeps g w g' w') (hl : g'.len = g.len) {ds : List D} {vs : List Value} (h : RepL g w ds vs) : RepL g' w' ds vs := by
  have := RepL.keep K ds vs h
  rwa [hl, RepL.shut_id (Nat.le_refl _) ds vs h] at this
theorem Keeps.df1 {g g' : Gh} {w w' : World} (K : Keeps g w g' w') (hl : g'.len = g.len) {x : D × List D} {d : Deferred} (h : RepDf1 g w x d) : RepDf1 g' w' x d := by
  unfold RepDf1 at h
  split at h
  · rename_i hx
    unfold RepDf1
    rw [hx]
    trivial
  · rename_i k hk
    obtain ⟨h0, r, h1, hw, ha⟩ := h
    unfold RepDf1
    rw [hk]
    obtain ⟨hle, hne⟩ := (K.bind k h0 (hl ▸ h0)).ne hw
    refine ⟨hl ▸ h0, r, h1, hne, fun l' hm => ?_⟩
    rcases hle with hb | hb | ⟨r1, n1, r2, n2, h1, h2, h3⟩
    · exact ha l' (hb ▸ hm)
    · rw [hb.2] at hm; cases hm
    · rw [h2] at hm; cases hm
  · obtain ⟨fn, first, cap, vs, h1, h2, h3, h4⟩ := h
    exact RepDf1.of ⟨fn, first, cap, vs, K.rep hl h1, K.repL hl h2, h3, h4⟩
theorem Keeps.df {g g' : Gh} {w w' : World} (K : Keeps g w g' w') (hl : g'.len = g.len) : ∀ {xs : List (D × List D)} {ds : List Deferred}, RepDf g w xs ds → RepDf g' w' xs ds
  | [], _, h => h
  | x :: r, ds, h => by
    obtain ⟨d, ds', rfl, h1, h5⟩ := h
    exact ⟨d, ds', rfl, K.df1 hl h1, K.df hl h5⟩
theorem Keeps.env {n : Nat} {g g' : Gh} {w w' : World} (K : Keeps g w g' w') (hl : g'.len = g.len) {e : Env} {a : Act} (h : EnvOk n g w e a) : EnvOk n g' w' e a := ⟨h.len, K.repL hl h.t, K.df hl h.df⟩
theorem ofCell_shut (w : World) (v : Value) (n : Nat) : (ofCell v).shut n = ofCell v :=
  Rep.shut_id (g := ⟨0, 0, fun _ => .none, fun _ _ => False⟩) (w := w) (Nat.zero_le n) _ _ (rep_ofCell _ _ v)
theorem zeroCs_some {P : Program} {op : Op} {cs : List D} (h : zeroCs P op = some cs) : ∃ t z, op = .alloc t ∧ tyZero P t = some z ∧ cs = z.cells.toList.map ofCell ∧ allCells cs = true := by
  cases op <;> simp only [zeroCs, reduceCtorEq] at h
  simp only [Option.bind_eq_some_iff] at h
  obtain ⟨z, hz, h⟩ := h
  split at h
  · rename_i ha
    simp only [Option.some.injEq] at h
    subst h
    exact ⟨_, z, rfl, hz, rfl, ha⟩
  · cases h
theorem zeroCs_shut {P : Program} {op : Op} {cs : List D} (h : zeroCs P op = some cs) (w : World) (n : Nat) : D.shutL n cs = cs := by
  obtain ⟨t, z, _, _, rfl, _⟩ := zeroCs_some h
  rw [shutL_eq, List.map_map]
  refine List.map_congr_left fun v _ => ?_
  exact ofCell_shut w v n
theorem BindLe.wait {y : Bind} (h : BindLe .wait y) : y = .wait := by
  rcases h with h | h | ⟨_, _, _, _, h, _⟩
  · exact h
  · exact absurd rfl h.1
  · cases h
/-- a slot that waits gets its block -/
theorem Inv.alloc_wait {g : Gh} {A : St} {w : World} (I : Inv g A w) (k : Nat) (hk : k < g.len) (hw : g.m k = .wait) (c : Array Value) (elem : TypeId) (cs : List D) (hA : A[k]? = some (.cells cs))
    (hr : RepL g w cs c.toList) (h1 : ∀ v ∈ c, v.oneCell' = true) :
    let w' := w.alloc (.cells c elem)
    let g' : Gh := { g with m := upd g.m k (.var w.heap.size 0 cs.length 0) }
    Keeps g w g' w' ∧ Below g.base w w' ∧ (∀ b off, g.S b off → w'.cell? ⟨b, off, none⟩ = w.cell? ⟨b, off, none⟩) ∧ Inv g' A w' ∧ Rep g' w' (.ref k 0) (.pointer (some ⟨w.heap.size, 0, none⟩)) := by
  intro w' g'
  obtain ⟨E1, I1, ha, hb⟩ := I.alloc c elem (0, 0)
  have hm : ∀ j, j ≠ k → g'.m j = g.m j := fun j hj => upd_ne _ _ hj
  have hmk : g'.m k = .var w.heap.size 0 cs.length 0 := by simp [g']
  have K1 : Keeps g w' g' w' := ⟨fun _ _ h => h, fun _ _ _ => rfl, fun j _ _ => by
    by_cases e : j = k
    · subst e; exact .inr ⟨hw, _, _, _, _, hmk⟩
    · rw [hm j e]; exact .inl (BindLe.refl _)⟩
  have K : Keeps g w g' w' := ⟨fun _ _ h => h, E1.keeps.cell, K1.bind⟩
  have hown : ∀ j b off, j < g.len → (g'.m j).owns b off → (j ≠ k ∧ (g.m j).owns b off) ∨ (j = k ∧ b = w.heap.size) := by
    intro j b off hj ho
    by_cases e : j = k
    · subst e; rw [hmk] at ho; exact .inr ⟨rfl, ho.1⟩
    · exact .inl ⟨e, hm j e ▸ ho⟩
  refine ⟨K, E1.below, E1.cellS, ⟨I1.len, I1.base, fun j s hj => ?_, fun j j' b off hj hj' o1 o2 => ?_, fun j b off hj ho => ?_, I1.old⟩, ?_⟩
  · by_cases e : j = k
    · subst e
      rw [hA] at hj
      cases hj
      rw [hmk]
      refine ⟨⟨rfl, fun i i1 i2 => by omega⟩, fun i d hd => ?_⟩
      obtain ⟨v, hv, hrep⟩ := hr.get hd
      have hv' : c[i]? = some v := by simpa using hv
      exact ⟨v, by simpa [w'] using hv', by simp [w'], h1 v (Array.mem_of_getElem? hv'), K.rep rfl hrep⟩
    · have hs := I1.slot j s hj
      rw [hm j e]
      cases hb : g.m j with
      | none => rw [hb] at hs; cases s <;> exact hs
      | wait => rw [hb] at hs; cases s <;> exact hs
      | var b o n x =>
        rw [hb] at hs
        cases s with
        | tok n => exact hs.elim
        | dead => exact hs.elim
        | loop f t rf st => exact hs.elim
        | dfb => exact hs.elim
        | cells cs' =>
          obtain ⟨⟨rfl, hxc⟩, hs⟩ := hs
          refine ⟨⟨rfl, hxc⟩, fun i d hd => ?_⟩
          obtain ⟨v, q1, q2, q3, q4⟩ := hs i d hd
          exact ⟨v, q1, q2, q3, K1.rep rfl q4⟩
      | tok r n => rw [hb] at hs; cases s <;> exact hs
      | obj l =>
        rw [hb] at hs
        cases s with
        | dfb => exact hs
        | loop f t rf st =>
          obtain ⟨r, q1, q2, q3, q4⟩ := hs
          exact ⟨r, q1, q2, K1.repL rfl q3, q4⟩
        | _ => exact hs.elim
  · rcases hown j b off hj o1 with ⟨a1, a2⟩ | ⟨a1, a2⟩ <;> rcases hown j' b off hj' o2 with ⟨c1, c2⟩ | ⟨c1, c2⟩
    · exact I.sep j j' b off hj hj' a2 c2
    · subst c2; exact (hb j off hj a2).elim
    · subst a2; exact (hb j' off hj' c2).elim
    · omega
  · rcases hown j b off hj ho with ⟨a1, a2⟩ | ⟨a1, a2⟩
    · exact I.own j b off hj a2
    · subst a2; exact ha off
  · simp only [Rep]
    refine ⟨hk, _, rfl, (by rw [hmk]; exact fun e => (by cases e)), fun b o n x h => ?_⟩
    rw [hmk] at h
    cases h
    rfl
theorem wait_sim {P : Program} {o : Oper} {q : Nat} {A : St} {gh : Gh} {w : World} (cs : List D) (hz : zeroCs P o.op = some cs) (hA : A[q]? = some (.cells cs)) (I : Inv gh A w) (hq : gh.m q = .wait) (a : Act) :
    ∃ w' g', (execOp a.eval o).run P w = .ok (.value (.pointer (some ⟨w.heap.size, 0, none⟩))) w' ∧ Rep g' w' (.ref q 0) (.pointer (some ⟨w.heap.size, 0, none⟩)) ∧ Keeps gh w g' w' ∧ g'.len = gh.len ∧ g'.base = gh.base ∧
      (∀ j, j ≠ q → g'.m j = gh.m j) ∧ Below gh.base w w' ∧ g'.S = gh.S ∧ (∀ b off, gh.S b off → w'.cell? ⟨b, off, none⟩ = w.cell? ⟨b, off, none⟩) ∧ Inv g' A w' := by
  obtain ⟨t, z, hop, htz, rfl, hall⟩ := zeroCs_some hz
  have hz0 : RepL gh w (z.cells.toList.map ofCell) z.cells.toList := by
    have := RepL.map (g := gh) (w := w) ofCell id z.cells.toList fun x _ => rep_ofCell gh w x
    simpa using this
  have hk : q < gh.len := I.len ▸ (List.getElem?_eq_some_iff.1 hA).1
  obtain ⟨K, b, c, I', R⟩ := I.alloc_wait q hk hq z.cells t _ hA hz0 fun v hv => oneCell_of hall hz0 v (by simpa using hv)
  exact ⟨_, _, by simp [execOp, hop, Instr.alloc, tyZero_some htz, newVar, newRow], R, K, rfl, rfl, fun j hj => upd_ne _ _ hj, b, rfl, c, I'⟩
theorem Ext.then_wait {g0 g g' : Gh} {w0 w w' : World} (E : Ext g0 w0 g w) {q : Nat} (hq : g0.len ≤ q) (hl : g'.len = g.len) (hb : g'.base = g.base) (hm : ∀ j, j ≠ q → g'.m j = g.m j) (below : Below g.base w w') (hS : g'.S = g.S)
    (hc : ∀ b off, g.S b off → w'.cell? ⟨b, off, none⟩ = w.cell? ⟨b, off, none⟩) : Ext g0 w0 g' w' :=
  ⟨hb.trans E.base, E.below.trans (E.base ▸ below), fun b o h => by rw [hS]; exact E.stabS b o h, fun b o h => (hc b o (E.stabS b o h)).trans (E.cellS b o h), by rw [hl]; exact E.len, fun k hk => by
    rw [hm k (by omega)]; exact E.bind k hk⟩
theorem appH_eq (A H : St) : appH A H = A ++ H := by
  cases H with
  | nil => simp [appH]
  | cons s T => rfl
theorem head_closed {X : Cx} (w : World) : ∀ {os : List Oper} {H : St}, headD X os = some H → ∀ s ∈ H, ∃ cs, s = .cells cs ∧ ∀ n, D.shutL n cs = cs
  | [], H, h => by
    simp only [headD, Option.some.injEq] at h
    subst h
    intro s hs; cases hs
  | o :: os, H, h => by
    simp only [headD] at h
    split at h
    · simp only [Option.bind_eq_some_iff, Option.map_eq_some_iff] at h
      obtain ⟨cs, hcs, T, hT, rfl⟩ := h
      intro s hs
      rcases List.mem_cons.1 hs with rfl | hs
      · exact ⟨cs, rfl, fun n => zeroCs_shut hcs w n⟩
      · exact head_closed w hT s hs
    · exact head_closed w h
theorem head_inv {w : World} : ∀ (H : St), (∀ s ∈ H, ∃ cs, s = Slot.cells cs ∧ ∀ n, D.shutL n cs = cs) → ∀ {g : Gh} {A : St}, Inv g A w → ∃ g', Ext g w g' w ∧ Inv g' (A ++ H) w ∧ g'.len = g.len + H.length ∧ ∀ j, g.len ≤ j → j < g'.len → g'.m j = .wait
  | [], _, g, A, I => ⟨g, Ext.refl _ _, by simpa using I, by simp, fun j h1 h2 => by omega⟩
  | s :: H, hc, g, A, I => by
    obtain ⟨cs, rfl, hcs⟩ := hc s (by simp)
    obtain ⟨E1, I1⟩ := I.bind_new .wait (.cells cs) hcs fun b off h => h.elim
    obtain ⟨g', E2, I2, hl, hw⟩ := head_inv H (fun s hs => hc s (by simp [hs])) I1
    refine ⟨g', E1.trans E2, by simpa using I2, by rw [hl]; simp; omega, fun j h1 h2 => ?_⟩
    by_cases e : j = g.len
    · subst e
      have := E2.bind g.len (by simp)
      simp only [upd_same] at this
      exact this.wait
    · exact hw j (by simp; omega) h2
theorem sq_mono (X : Cx) (ops : Array Oper) (q0 : Nat) (i : Nat) : sq X ops q0 i ≤ sq X ops q0 (i + 1) := by
  simp only [sq]
  split
  · unfold nq; split <;> omega
  · omega
theorem sq_le (X : Cx) (ops : Array Oper) (q0 : Nat) {i j : Nat} (h : i ≤ j) : sq X ops q0 i ≤ sq X ops q0 j := by
  induction h with
  | refl => omega
  | step _ ih => exact Nat.le_trans ih (sq_mono X ops q0 _)
theorem sq_wait {X : Cx} {ops : Array Oper} {q0 i : Nat} {o : Oper} (ho : ops[i]? = some o) (hk : drK X o.op = .wait) : sq X ops q0 (i + 1) = sq X ops q0 i + 1 := by
  simp only [sq, ho, nq, hk]
theorem sq_inj {X : Cx} {ops : Array Oper} {q0 i j : Nat} {o o' : Oper} (ho : ops[i]? = some o) (hk : drK X o.op = .wait) (ho' : ops[j]? = some o') (hk' : drK X o'.op = .wait) (h : i ≠ j) : sq X ops q0 i ≠ sq X ops q0 j := by
  rcases Nat.lt_or_gt_of_ne h with h | h
  · have := sq_le X ops q0 (show i + 1 ≤ j by omega)
    rw [sq_wait ho hk] at this
    omega
  · have := sq_le X ops q0 (show j + 1 ≤ i by omega)
    rw [sq_wait ho' hk'] at this
    omega
theorem head_len {X : Cx} {ops : Array Oper} {q0 : Nat} : ∀ {os : List Oper} {H : St} (k : Nat), headD X os = some H → (∀ j, os[j]? = ops[k + j]?) → sq X ops q0 (k + os.length) = sq X ops q0 k + H.length
  | [], H, k, h, _ => by
    simp only [headD, Option.some.injEq] at h
    subst h
    simp
  | o :: os, H, k, h, hos => by
    have ho : ops[k]? = some o := by have := hos 0; simpa using this.symm
    have hos' : ∀ j, os[j]? = ops[k + 1 + j]? := fun j => by
      have := hos (j + 1)
      simp only [List.getElem?_cons_succ] at this
      rw [this]; congr 1; omega
    have e : k + (o :: os).length = k + 1 + os.length := by simp; omega
    rw [e]
    simp only [headD] at h
    split at h
    · rename_i hk
      simp only [Option.bind_eq_some_iff, Option.map_eq_some_iff] at h
      obtain ⟨cs, hcs, T, hT, rfl⟩ := h
      rw [head_len (k + 1) hT hos', sq_wait ho hk]
      simp; omega
    · rename_i hk
      rw [head_len (k + 1) h hos']
      congr 1
      simp only [sq, ho]
      unfold nq
      split
      · rename_i h'; exact absurd h' hk
      · rfl
end Go.Vm

/- Regions that draw their order: the theorem itself. -/
namespace Go.Vm
open Go.RowKit
set_option linter.unusedVariables false

theorem drK_plain {X : Cx} {o : Oper} (ro : Option Nat) (h : drK X o.op ≠ .bad) : PlainAt ro o := by
  right
  intro c hc
  rw [hc] at h
  obtain ⟨callee, args, ts⟩ := c
  cases callee <;> simp [drK, opK] at h

set_option maxHeartbeats 1600000 in
theorem draw_sim (X : Cx) (hc : CallOk X.P X.call) : DrawOk X := by
  intro id ops e A o h g₀ w₀ a₀ I₀ he₀ ro Q hQ
  unfold drawD at h
  simp only [Option.bind_eq_some_iff] at h
  obtain ⟨H, hH, ⟨T, r⟩, ht, h⟩ := h
  obtain ⟨A0, hA0⟩ : ∃ A0 : St, A0 = A := ⟨A, rfl⟩
  have hlenA : A0.length = g₀.len := by rw [hA0]; exact I₀.len.symm
  rw [← hA0] at ht h
  have hclosed := head_closed w₀ hH
  have hlenH : sq X ops A0.length ops.size = A0.length + H.length := by
    have := head_len (ops := ops) (q0 := A0.length) 0 hH (fun j => by simp)
    simpa [sq] using this
  rw [appH_eq] at ht h
  generalize hB : A0 ++ H = B at ht h
  cases hok : drawOk X ops (ancAll ops) (r.map fun _ => T.length - 1) with
  | false => rw [hok] at h; cases h
  | true =>
  rw [hok] at h
  simp only [cond_true] at h
  obtain ⟨hsame, h⟩ := guardP_eq.1 h
  simp only [Option.some.injEq] at h
  -- what the test says
  simp only [drawOk, Bool.and_eq_true] at hok
  obtain ⟨⟨⟨⟨hfol, hb0⟩, hsel0⟩, hpair0⟩, hpan0⟩ := hok
  have hb : ∀ (i : Nat) o, ops[i]? = some o → ∀ k ∈ bindsOn o, k < i := fun i o ho k hk => by
    have := all_zipIdx hb0 ho
    simpa using List.all_eq_true.1 this k hk
  have htok : ∀ (i : Nat) o, ops[i]? = some o → hintOf X.h o.dst = [] := fun i o ho => by
    have := List.all_eq_true.1 hsel0 o (by simpa using Array.mem_of_getElem? ho)
    simp only [Bool.and_eq_true, List.isEmpty_iff] at this
    exact this.2
  have hpair : ∀ (i j : Nat) oi oj, i < j → ops[i]? = some oi → ops[j]? = some oj → i ∈ (ancAll ops).getD j [] ∨
      (¬ (isEff X oi = true ∧ isEff X oj = true) ∧ (∀ t, oi.dst = some t → t ∉ looks ops oj ∧ oj.dst ≠ some t) ∧ (∀ t, oj.dst = some t → t ∉ looks ops oi)) := by
    intro i j oi oj hij hi hj
    have h1 := all_zipIdx hpair0 hi
    have h2 := all_zipIdx h1 hj
    simp only [Bool.or_eq_true, decide_eq_true_eq, Bool.and_eq_true, List.contains_iff_mem, Bool.not_eq_true'] at h2
    rcases h2 with h2 | h2 | ⟨⟨h2, h3⟩, h4⟩
    · omega
    · exact .inl h2
    · refine .inr ⟨?_, fun t ht => ?_, fun t ht => ?_⟩
      · rintro ⟨q1, q2⟩
        rw [q1, q2] at h2
        cases h2
      · rw [ht] at h3
        simp only [Bool.and_eq_true, Bool.not_eq_true', bne_iff_ne] at h3
        exact ⟨fun hm => (by have := List.contains_iff_mem.2 hm; rw [h3.1] at this; cases this), h3.2⟩
      · rw [ht] at h4
        simp only [Bool.not_eq_true'] at h4
        exact fun hm => by have := List.contains_iff_mem.2 hm; rw [h4] at this; cases this
  -- the trace
  have htr := trace_is X ops ops.toList A0.length e.t B T r ht
  obtain ⟨hstep, hTn, hTle, hTpos⟩ := trace_get 0 htr (fun j => by simp) [] A0.length e.t B (fun _ => true) rfl rfl rfl (fun _ _ _ => rfl) (tA_zero B T).symm
  simp only [List.nil_append, Nat.zero_add, Array.length_toList] at hstep hTn hTle
  have hstep' : ∀ (i : Nat) s o', T[i]? = some s → ops[i]? = some o' → StepIs X ops o' (sq X ops A0.length i) (envLm ops T e.t (fun _ => true) i) (tA B T i) s (if i + 1 = T.length then r else none) := by
    intro i s o' hi ho
    obtain ⟨o2, h1, h2⟩ := hstep i s hi
    rw [ho] at h1
    cases h1
    exact h2
  have hpan : ∀ p, r = some p → ∀ (j : Nat) oj, T.length - 1 < j → ops[j]? = some oj → T.length - 1 ∈ (ancAll ops).getD j [] ∨ ((∃ x, oj.op = .move x ∨ oj.op = .assign x) ∧ oj.guard = none) := by
    intro p hp j oj hj ho
    rw [hp] at hpan0
    simp only [Option.map_some] at hpan0
    have := all_zipIdx hpan0 ho
    simp only [Bool.or_eq_true, decide_eq_true_eq, List.contains_iff_mem] at this
    rcases this with (h1 | h1) | h1
    · omega
    · exact .inl h1
    · refine .inr ?_
      cases hop : oj.op <;> rw [hop] at h1 <;> simp only [Bool.false_eq_true, Option.isNone_iff_eq_none] at h1
      · exact ⟨⟨_, .inl rfl⟩, h1⟩
      · exact ⟨⟨_, .inr rfl⟩, h1⟩
  have heffp : ∀ p, r = some p → ∀ op, ops[T.length - 1]? = some op → isEff X op = true := by
    intro p hp op hop
    have hpos := hTpos (by rw [hp]; rfl)
    have hi : T[T.length - 1]? = some T[T.length - 1] := List.getElem?_eq_getElem (by omega)
    have hs := hstep' _ _ op hi hop
    rw [if_pos (by omega), hp] at hs
    have := hs.2.2.1
    simp [isEff, this]
  -- a step that is no effect leaves the store
  have hch : ∀ m, m < ops.size → (ops[m]?).any (isEff X) = false → tA B T (m + 1) = tA B T m := by
    intro m hm he
    rcases Nat.lt_or_ge m T.length with hlt | hge
    · have hi : T[m]? = some T[m] := List.getElem?_eq_getElem hlt
      have ho : ops[m]? = some ops[m] := by simp [hm]
      have hs := hstep' m _ _ hi ho
      rw [tA_succ B T m _ hi]
      rw [ho] at he
      simp only [Option.any_some, isEff, beq_eq_false_iff_ne] at he
      unfold StepIs at hs
      split at hs
      · exact absurd hs.2.2.1 he
      · obtain ⟨_, hA, _, hs⟩ := hs
        cases hk : drK X ops[m].op <;> rw [hk] at hs he
        · exact hs.1
        · exact hs.1
        · exact hs.1
        · exact absurd rfl he
        · exact hs.elim
    · rw [tA_end B T _ hge, tA_end B T _ (by omega)]
  -- the walk over all orders
  have key : ∀ (fuel : Nat) (listed : Array Bool) (a : Act) (w : World) (g : Gh), listed.size = ops.size →
      (∀ i, listed.getD i false = true → ∀ o, ops[i]? = some o → ∀ k ∈ bindsOn o, listed.getD k false = true) →
      (∀ p, r = some p → listed.getD (T.length - 1) false = false) →
      A0.length + H.length ≤ g.len → (∀ (j : Nat) oj, ops[j]? = some oj → drK X oj.op = .wait → listed.getD j false = false → g.m (sq X ops A0.length j) = .wait) →
      Ext g₀ w₀ g w → EnvOk X.n g w { e with t := envLm ops T e.t (fun j => listed.getD j false) ops.size } a → Inv g (stLm X ops B T (fun j => listed.getD j false) ops.size) w →
      cntm (fun j => listed.getD j false) ops.size ≤ fuel → wpAnyIn (FR ro) 0 X.P .any ops Q fuel listed a w := by
    intro fuel
    induction fuel with
    | zero =>
      intro listed a w g hsz hcl hpl hln hwt E he I hcnt
      have hall : ∀ i, i < ops.size → listed.getD i false = true := cnt_zero (Nat.le_zero.1 hcnt)
      have hr : r = none := by
        cases hr : r with
        | none => rfl
        | some p =>
          have := hpl p hr
          have hpos := hTpos (by rw [hr]; rfl)
          rw [hall _ (by omega)] at this
          cases this
      refine ⟨?_, ?_⟩
      · refine List.eq_nil_iff_forall_not_mem.2 fun i hi => ?_
        obtain ⟨h0, o', ho', _⟩ := mem_ready.1 hi
        have hlt := (Array.getElem?_eq_some_iff.1 ho').1
        have := hall i hlt
        simp [Array.getD_eq_getD_getElem?, hsz ▸ hlt] at h0 this
        rw [h0] at this; cases this
      · subst hr
        simp only at h
        have hTN := hTn rfl
        refine hQ _ _ _ ⟨g, E, ?_, ?_, ?_⟩
        · rw [← h]
          have := st_agree (P := X) (ops := ops) (A := B) (T := T) (L := fun j => listed.getD j false) (L' := fun j => decide (j < ops.size)) ops.size fun j hj _ => by simp only [hall j hj, hj, decide_true]
          rw [this, st_upto ops.size hch, Nat.min_self, tA_end B T _ (by omega)] at I
          exact I
        · rw [← h]
          have := env_full (e := e.t) hTN hall ops.size (Nat.le_refl _)
          rw [List.take_of_length_le (by rw [List.length_zip, Array.length_toList]; exact Nat.min_le_left _ _)] at this
          rw [this] at he
          exact he
        · rw [← h]; trivial
    | succ fuel ih =>
      intro listed a w g hsz hcl hpl hln hwt E he I hcnt
      refine ⟨fun hrd => ?_, fun i hi => ?_⟩
      · -- nothing ready: all is done
        have hall : ∀ i, i < ops.size → listed.getD i false = true := by
          rcases least_loose (L := fun j => listed.getD j false) ops.size with h | ⟨i, h1, h2, h3⟩
          · exact h
          · exfalso
            have : i ∈ Region.ready .any ops listed := by
              rw [mem_ready]
              refine ⟨?_, ops[i], by simp [h1], fun ed hed hbi => ?_⟩
              · simp [Array.getD_eq_getD_getElem?, show i < listed.size by omega] at h2 ⊢
                exact h2
              · have hk : ed.on ∈ bindsOn ops[i] := by
                  unfold bindsOn
                  refine List.mem_map.2 ⟨ed, ?_, rfl⟩
                  rw [List.mem_filter]
                  exact ⟨by simpa using hed, hbi⟩
                exact h3 ed.on (hb i ops[i] (by simp [h1]) _ hk)
            rw [hrd] at this
            cases this
        have hr : r = none := by
          cases hr : r with
          | none => rfl
          | some p =>
            have := hpl p hr
            have hpos := hTpos (by rw [hr]; rfl)
            rw [hall _ (by omega)] at this
            cases this
        subst hr
        simp only at h
        have hTN := hTn rfl
        refine hQ _ _ _ ⟨g, E, ?_, ?_, ?_⟩
        · rw [← h]
          have := st_agree (P := X) (ops := ops) (A := B) (T := T) (L := fun j => listed.getD j false) (L' := fun j => decide (j < ops.size)) ops.size fun j hj _ => by simp only [hall j hj, hj, decide_true]
          rw [this, st_upto ops.size hch, Nat.min_self, tA_end B T _ (by omega)] at I
          exact I
        · rw [← h]
          have := env_full (e := e.t) hTN hall ops.size (Nat.le_refl _)
          rw [List.take_of_length_le (by rw [List.length_zip, Array.length_toList]; exact Nat.min_le_left _ _)] at this
          rw [this] at he
          exact he
        · rw [← h]; trivial
      · -- one that is ready
        obtain ⟨h0, oi, hoi, hpre0⟩ := mem_ready.1 hi
        have hlt : i < ops.size := (Array.getElem?_eq_some_iff.1 hoi).1
        have hLi : listed.getD i false = false := by
          simp [Array.getD_eq_getD_getElem?, show i < listed.size by omega] at h0 ⊢
          exact h0
        have hpre : ∀ o', ops[i]? = some o' → ∀ k ∈ bindsOn o', listed.getD k false = true := by
          intro o' ho' k hk
          rw [hoi] at ho'
          cases ho'
          unfold bindsOn at hk
          obtain ⟨ed, hed, rfl⟩ := List.mem_map.1 hk
          rw [List.mem_filter] at hed
          exact hpre0 ed (by simpa using hed.1) hed.2
        have hbefore : ∀ j ∈ (ancAll ops).getD i [], listed.getD j false = true := ancAll_closed hcl i hpre
        have hafter : ∀ m, i ∈ (ancAll ops).getD m [] → listed.getD m false = false := by
          intro m hm
          cases hLm : listed.getD m false
          · rfl
          · have := ancAll_closed hcl m (hcl m hLm) i hm
            rw [hLi] at this; cases this
        -- listed' = listed and i
        have hL' : ∀ j, (listed.setIfInBounds i true).getD j false = if j = i then true else listed.getD j false := by
          intro j
          by_cases hj : j = i
          · subst hj; simp [show j < listed.size by omega]
          · rw [if_neg hj, getD_set_ne false (fun e => hj e.symm)]
        have hLi' : (listed.setIfInBounds i true).getD i false = true := by rw [hL']; simp
        have hLne : ∀ j, j ≠ i → (listed.setIfInBounds i true).getD j false = listed.getD j false := fun j hj => by rw [hL', if_neg hj]
        have hcl' : ∀ q, (listed.setIfInBounds i true).getD q false = true → ∀ o, ops[q]? = some o → ∀ k ∈ bindsOn o, (listed.setIfInBounds i true).getD k false = true := by
          intro q hq o' ho' k hk
          refine getD_set_true ?_
          by_cases e : q = i
          · subst e; exact hpre o' ho' k hk
          · rw [hLne q e] at hq
            exact hcl q hq o' ho' k hk
        have hcnt' : cntm (fun j => (listed.setIfInBounds i true).getD j false) ops.size ≤ fuel := by
          have := cnt_more (L := fun j => listed.getD j false) (L' := fun j => (listed.setIfInBounds i true).getD j false) hLi hLi' hLne ops.size hlt
          omega
        have henv' : envLm ops T e.t (fun j => (listed.setIfInBounds i true).getD j false) ops.size = putD oi.dst (tv T i) (envLm ops T e.t (fun j => listed.getD j false) ops.size) := by
          have := env_more (ops := ops) (T := T) (e := e.t) (L := fun j => listed.getD j false) (L' := fun j => (listed.setIfInBounds i true).getD j false) hLi hLi' hLne ops.size hlt fun j hij hj hLj t htj => by
            have hoj : ops[j]? = some ops[j] := by simp [hj]
            rw [hoi]
            simp only [Option.bind_some]
            rcases hpair i j oi ops[j] hij hoi hoj with h1 | ⟨_, h2, _⟩
            · have := hafter j h1
              rw [this] at hLj; cases hLj
            · intro hdi
              have := (h2 t hdi).2
              rw [hoj] at htj
              exact this (by simpa using htj)
          rw [this, hoi]
          rfl
        have hst_non : isEff X oi = false → stLm X ops B T (fun j => (listed.setIfInBounds i true).getD j false) ops.size = stLm X ops B T (fun j => listed.getD j false) ops.size := by
          intro hne
          refine st_agree _ fun j hj hej => ?_
          refine hLne j ?_
          rintro rfl
          rw [hoi] at hej
          simp [hne] at hej
        -- carried out: the next state
        have next' : ∀ (g1 : Gh) (w1 : World) (v : Value), (∀ p, r = some p → i ≠ T.length - 1) → A0.length + H.length ≤ g1.len →
            (∀ (j : Nat) oj, ops[j]? = some oj → drK X oj.op = .wait → j ≠ i → listed.getD j false = false → g1.m (sq X ops A0.length j) = .wait) →
            Ext g₀ w₀ g1 w1 → EnvOk X.n g1 w1 { e with t := envLm ops T e.t (fun j => listed.getD j false) ops.size } a → Rep g1 w1 (tv T i) v →
            Inv g1 (stLm X ops B T (fun j => (listed.setIfInBounds i true).getD j false) ops.size) w1 → wpAnyIn (FR ro) 0 X.P .any ops Q fuel (listed.setIfInBounds i true) (a.put oi.dst v) w1 := by
          intro g1 w1 v hnp hl1 hw1 E1 he1 hv I1
          refine ih _ _ w1 g1 (by simp [hsz]) hcl' (fun p hp => ?_) hl1 (fun j oj hj hkj hLj => ?_) E1 ?_ I1 hcnt'
          · rw [hLne _ (fun e => hnp p hp e.symm)]
            exact hpl p hp
          · have hji : j ≠ i := by
              rintro rfl
              rw [hLi'] at hLj; cases hLj
            rw [hLne j hji] at hLj
            exact hw1 j oj hj hkj hji hLj
          · rw [henv']
            have := he1.put oi.dst hv
            exact this
        have hsqlt : ∀ (j : Nat) oj, ops[j]? = some oj → drK X oj.op = .wait → A0.length ≤ sq X ops A0.length j ∧ sq X ops A0.length j < A0.length + H.length := by
          intro j oj hj hkj
          have hjlt := (Array.getElem?_eq_some_iff.1 hj).1
          have h1 := sq_le X ops A0.length (show j + 1 ≤ ops.size by omega)
          rw [sq_wait hj hkj, hlenH] at h1
          have h2 := sq_le X ops A0.length (show 0 ≤ j by omega)
          simp only [sq] at h2
          omega
        have next : ∀ (g1 : Gh) (w1 : World) (v : Value), (∀ p, r = some p → i ≠ T.length - 1) → Ext g w g1 w1 → Rep g1 w1 (tv T i) v →
            Inv g1 (stLm X ops B T (fun j => (listed.setIfInBounds i true).getD j false) ops.size) w1 → wpAnyIn (FR ro) 0 X.P .any ops Q fuel (listed.setIfInBounds i true) (a.put oi.dst v) w1 := by
          intro g1 w1 v hnp E1 hv I1
          refine next' g1 w1 v hnp (Nat.le_trans hln E1.len) (fun j oj hj hkj hji hLj => ?_) (E.trans E1) (he.ext E1) hv I1
          have h1 := E1.bind (sq X ops A0.length j) (by have := hsqlt j oj hj hkj; omega)
          rw [hwt j oj hj hkj hLj] at h1
          exact h1.wait
        -- behind a panic: what can do no harm
        by_cases hiT : i < T.length
        case neg =>
          have hrs : ∃ p, r = some p := by
            cases hr : r with
            | none => have := hTn hr; omega
            | some p => exact ⟨p, rfl⟩
          obtain ⟨p, hp⟩ := hrs
          have hpos := hTpos (by rw [hp]; rfl)
          rcases hpan p hp i oi (by omega) hoi with h1 | ⟨⟨x, hx⟩, hgd⟩
          · have := hbefore _ h1
            rw [hpl p hp] at this; cases this
          · unfold wpOpIn
            rw [hoi]
            simp only
            rw [if_pos (by simp [Region.wanted, hgd])]
            have hrun : (execOp a.eval oi).run X.P w = .ok (.value (a.eval x)) w := by rcases hx with hx | hx <;> simp [execOp, hx]
            have hne : isEff X oi = false := by rcases hx with hx | hx <;> simp [isEff, drK, opK, hx]
            refine Oper.wpIn_value (.inr fun c hc => by rcases hx with hx | hx <;> rw [hx] at hc <;> cases hc) hrun (next g w _ (fun q hq => by omega) (Ext.refl _ _) ?_ ?_)
            · have : tv T i = .any := by simp [tv, List.getElem?_eq_none (Nat.not_lt.1 hiT)]
              rw [this]; simp [Rep]
            · rw [hst_non hne]; exact I
        case pos =>
        have hTi : T[i]? = some T[i] := List.getElem?_eq_getElem hiT
        have hs := hstep' i _ oi hTi hoi
        have htv : tv T i = T[i].d := by simp [tv, hTi]
        -- its operands read as in the order of the text
        have hlook : ∀ t ∈ looks ops oi, (envLm ops T e.t (fun j => listed.getD j false) ops.size)[t]? = (envLm ops T e.t (fun _ => true) i)[t]? := by
          intro t ht
          have h1 := env_agree (ops := ops) (T := T) (e := e.t) (L := fun j => listed.getD j false) (L' := fun m => decide (m < i)) (t := t) ops.size fun j hj hdj => by
            have hoj : ops[j]? = some ops[j] := by simp [hj]
            rw [hoj] at hdj
            simp only [Option.bind_some] at hdj
            rcases Nat.lt_trichotomy j i with hji | rfl | hij
            · rcases hpair j i ops[j] oi hji hoj hoi with h1 | ⟨_, h2, _⟩
              · simp [hji, hbefore j h1]
              · exact absurd ht (h2 t hdj).1
            · simp [hLi]
            · rcases hpair i j oi ops[j] hij hoi hoj with h1 | ⟨_, _, h2⟩
              · have := hafter j h1
                simp only [this]
                simp; omega
              · exact absurd ht (h2 t hdj)
          rw [h1, env_upto, Nat.min_eq_right (by omega)]
        have hops := evalO_congr hlook
        have hwant0 : wantedD ops (envLm ops T e.t (fun j => listed.getD j false) ops.size) oi = some T[i].w := (wantedD_congr hlook).trans hs.1
        have hwant := wanted_sim (e := { e with t := envLm ops T e.t (fun j => listed.getD j false) ops.size }) he hwant0
        -- an effect meets the store of the text's order
        have hst_eff : isEff X oi = true → stLm X ops B T (fun j => listed.getD j false) ops.size = tA B T i ∧ stLm X ops B T (fun j => (listed.setIfInBounds i true).getD j false) ops.size = T[i].A' := by
          intro hei
          have hag : ∀ j, j < ops.size → (ops[j]?).any (isEff X) = true → j ≠ i → listed.getD j false = decide (j < i) := by
            intro j hj hej hne
            have hoj : ops[j]? = some ops[j] := by simp [hj]
            rw [hoj] at hej
            simp only [Option.any_some] at hej
            rcases Nat.lt_trichotomy j i with hji | rfl | hij
            · rcases hpair j i ops[j] oi hji hoj hoi with h1 | ⟨h2, _⟩
              · simp [hji, hbefore j h1]
              · exact absurd ⟨hej, hei⟩ h2
            · exact absurd rfl hne
            · rcases hpair i j oi ops[j] hij hoi hoj with h1 | ⟨h2, _⟩
              · rw [hafter j h1]; simp; omega
              · exact absurd ⟨hei, hej⟩ h2
          constructor
          · rw [st_agree (L' := fun m => decide (m < i)) ops.size fun j hj hej => by
              by_cases e : j = i
              · subst e; simp [hLi]
              · exact hag j hj hej e]
            rw [st_upto i (fun m hm => hch m (by omega)) ops.size, Nat.min_eq_right (by omega)]
          · rw [st_agree (L' := fun m => decide (m < i + 1)) ops.size fun j hj hej => by
              by_cases e : j = i
              · subst e
                simp only [hLi']
                simp
              · simp only [hLne j e, hag j hj hej e]
                apply Bool.eq_iff_iff.2
                simp
                omega]
            rw [st_upto (i + 1) (fun m hm => hch m (by omega)) ops.size, Nat.min_eq_right (by omega), tA_succ B T i _ hTi]
        unfold wpOpIn
        rw [hoi]
        simp only [hwant]
        unfold StepIs at hs
        split at hs
        · -- the panic
          rename_i stop p hstop
          have hil : i + 1 = T.length := by
            by_cases hq : i + 1 = T.length
            · exact hq
            · rw [if_neg hq] at hstop; cases hstop
          rw [if_pos hil] at hstop
          obtain ⟨_, hsA, hk, hck, hw, hcall, hd⟩ := hs
          have hei : isEff X oi = true := by simp [isEff, hk]
          obtain ⟨hs1, _⟩ := hst_eff hei
          rw [hs1] at I
          rw [hw, if_pos rfl]
          rw [← callD_congr hops] at hcall
          refine call_sim hc hcall I he (fun g' w' d v hr' => by cases hr') fun g' w' d t u hr' E' I' R => ?_
          cases hr'
          rw [hstop] at h
          simp only at h
          refine hQ _ _ _ ⟨g', E.trans E', ?_, ?_, ?_⟩
          · rw [← h]
            have hlast : T.getLast? = some T[i] := by
              rw [List.getLast?_eq_getElem?, ← hTi]
              congr 1
              omega
            simp only [hlast, Option.map_some, Option.getD_some]
            exact I'
          · rw [← h]
            have he' := he.ext E'
            refine ⟨?_, ?_, he'.df⟩
            · have := he'.len
              simp only [envLm_length] at this
              simp only [forget_length]
              exact this
            · refine RepL.of_get ?_ fun t d v h1 h2 => ?_
              · have := he'.t.length
                simp only [envLm_length] at this
                simp only [forget_length]
                exact this
              · by_cases hex : ∃ o ∈ ops.toList, o.dst = some t
                · have := forget_any _ _ t hex d h1
                  rw [this]; simp [Rep]
                · rw [forget_get _ _ t fun o' ho' e' => hex ⟨o', ho', e'⟩] at h1
                  have h3 := env_none (T := T) (e := e.t) (L := fun j => listed.getD j false) (t := t) (ops := ops) (fun o' ho' e' => hex ⟨o', ho', e'⟩) ops.size
                  rw [← h3] at h1
                  obtain ⟨v', hv', hrv⟩ := he'.t.get h1
                  rw [h2] at hv'
                  cases hv'
                  exact hrv
          · rw [← h]
            exact ⟨t, u, rfl, R⟩
        · -- no panic
          rename_i stop hstop
          have hnp : ∀ p, r = some p → i ≠ T.length - 1 := by
            intro p hp hq
            have hpos := hTpos (by rw [hp]; rfl)
            rw [if_pos (by omega), hp] at hstop
            cases hstop
          obtain ⟨_, hsA, hskip, hs⟩ := hs
          -- not wanted
          cases hw : T[i].w with
          | false =>
            rw [if_neg (by simp)]
            refine ⟨fun _ _ => trivial, ?_⟩
            have hd := hskip hw
            refine next g w undef hnp (Ext.refl _ _) (by rw [htv, hd]; exact rep_undef g w) ?_
            cases hk : drK X oi.op with
            | val => rw [hst_non (by simp [isEff, hk])]; exact I
            | load => rw [hst_non (by simp [isEff, hk])]; exact I
            | wait => rw [hst_non (by simp [isEff, hk])]; exact I
            | bad => rw [hk] at hs; exact hs.elim
            | eff =>
              rw [hk] at hs
              obtain ⟨s1, s2⟩ := hst_eff (by simp [isEff, hk])
              rw [s2, hs.1 hw, ← s1]
              exact I
          | true =>
            rw [if_pos rfl]
            have hpo : PlainAt ro oi := drK_plain (X := X) ro fun hb => by rw [hb] at hs; exact hs.elim
            have slotAt : isLoad X oi = true → ∀ k off, T[i].ad = .ref k off → (stLm X ops B T (fun j => listed.getD j false) ops.size)[k]? = (tA B T i)[k]? := by
              intro hld0 k off hk'
              have hnei : isEff X oi = false := by
                simp only [isLoad, Bool.or_eq_true, beq_iff_eq] at hld0
                rcases hld0 with q | q <;> simp [isEff, q]
              refine load_slot (N := ops.size) rfl (by omega) hch (fun m m' hmm hm hm' hLm' => ?_) k (fun m hm h1 h2 hne => ?_) (by rw [hoi]; simp [hnei])
              · -- effects in order
                rcases ho1 : ops[m]? with _ | om
                · rw [ho1] at hm; simp at hm
                · rcases ho2 : ops[m']? with _ | om'
                  · rw [ho2] at hm'; simp at hm'
                  · rw [ho1] at hm; rw [ho2] at hm'
                    rcases hpair m m' om om' hmm ho1 ho2 with q | ⟨q, _⟩
                    · exact ancAll_closed hcl m' (hcl m' hLm') m q
                    · exact absurd ⟨by simpa using hm, by simpa using hm'⟩ q
              · -- an effect that no order binds to the load
                rcases ho1 : ops[m]? with _ | om
                · rw [ho1] at hm; simp at hm
                · rw [ho1] at hm
                  simp only [Option.any_some] at hm
                  have hmT : m < T.length := by
                    rcases Nat.lt_or_ge m T.length with h | h
                    · exact h
                    · exfalso
                      have hLm := h2 (by omega)
                      cases hr : r with
                      | none =>
                        have := hTn hr
                        have := (Array.getElem?_eq_some_iff.1 ho1).1
                        omega
                      | some p =>
                        have hpos := hTpos (by rw [hr]; rfl)
                        rcases hpan p hr m om (by omega) ho1 with q | ⟨⟨x', hx'⟩, _⟩
                        · have := ancAll_closed hcl m (hcl m hLm) _ q
                          rw [hpl p hr] at this; cases this
                        · rcases hx' with hx' | hx' <;> simp [isEff, drK, opK, hx'] at hm
                  have hmi : T[m]? = some T[m] := List.getElem?_eq_getElem hmT
                  have hnot1 : m ∉ (ancAll ops).getD i [] := fun hq => by
                    have hl := ancAll_lt hb i m hq
                    have := hbefore m hq
                    rw [h1 hl] at this; cases this
                  have hnot2 : i ∉ (ancAll ops).getD m [] := fun hq => by
                    have hl := ancAll_lt hb m i hq
                    have := hafter m hq
                    rw [h2 hl] at this; cases this
                  have hmem : (i, m) ∈ loosePairs X ops (ancAll ops) := by
                    unfold loosePairs
                    refine List.mem_flatMap.2 ⟨(oi, i), ?_, ?_⟩
                    · rw [List.mem_filter]
                      exact ⟨by rw [List.mem_zipIdx_iff_getElem?]; simpa using hoi, hld0⟩
                    · refine List.mem_map.2 ⟨(om, m), ?_, rfl⟩
                      rw [List.mem_filter, List.mem_filter]
                      refine ⟨⟨by rw [List.mem_zipIdx_iff_getElem?]; simpa using ho1, hm⟩, ?_⟩
                      simp only [Bool.not_eq_true', Bool.or_eq_false_iff]
                      constructor
                      · cases hq : ((ancAll ops).getD i []).contains m
                        · rfl
                        · exact absurd (List.contains_iff_mem.1 hq) hnot1
                      · cases hq : ((ancAll ops).getD m []).contains i
                        · rfl
                        · exact absurd (List.contains_iff_mem.1 hq) hnot2
                  have hsm := allSame_mem hsame _ hmem
                  unfold sameAt at hsm
                  simp only [hTi, hmi, hk'] at hsm
                  have hsmA := hstep' m _ om hmi ho1
                  rw [tA_succ B T m _ hmi, ← hsmA.2.1]
                  exact hsm.symm
            cases hk : drK X oi.op with
            | bad => rw [hk] at hs; exact hs.elim
            | wait =>
              rw [hk] at hs
              obtain ⟨hA', hv⟩ := hs
              obtain ⟨hv, had⟩ := hv hw
              have hst := hst_non (by simp [isEff, hk])
              simp only [waitD, waitO, Option.bind_eq_some_iff] at hv
              obtain ⟨cs, hcs, hv⟩ := hv
              obtain ⟨hAq, hd⟩ := guardP_eq.1 hv
              simp only [Option.some.injEq] at hd
              have hsl := slotAt (by simp [isLoad, hk]) _ _ had
              obtain ⟨w', g', q1, q2, q3, q4, q5, q6, q7, q8, q9, q10⟩ := wait_sim (P := X.P) cs hcs (hsl.trans hAq) I (hwt i oi hoi hk hLi) a
              have hq := hsqlt i oi hoi hk
              refine Oper.wpIn_value hpo q1 (next' g' w' _ hnp (by rw [q4]; exact hln) (fun j oj hj hkj hji hLj => ?_) (E.then_wait (by omega) q4 q5 q6 q7 q8 q9) (q3.env q4 he) (by rw [htv, ← hd]; exact q2) (by rw [hst]; exact q10))
              rw [q6 _ (sq_inj hj hkj hoi hk hji)]
              exact hwt j oj hj hkj hLj
            | val =>
              rw [hk] at hs
              obtain ⟨hA', hv⟩ := hs
              have hv := hv hw
              have hst := hst_non (by simp [isEff, hk])
              rw [← valD_congr hops] at hv
              by_cases hpk : opK X.P oi.op = .pure
              · unfold valD at hv
                rw [hpk] at hv
                obtain ⟨z, h1, h2⟩ := pure_sim hv he.t
                exact Oper.wpIn_value hpo h1 (next g w z hnp (Ext.refl _ _) (by rw [htv]; exact h2) (by rw [hst]; exact I))
              · obtain ⟨nx, w', g', h1, h2, h3, h4⟩ := val_sim hk hpk hv I he.t
                cases nx <;> simp only [NextOk] at h2
                case value z => exact Oper.wpIn_value hpo h1 (next g' w' z hnp h3 (by rw [htv]; exact h2) (by rw [hst]; exact h4))
                case skip => exact Oper.wpIn_skip hpo h1 (next g' w' undef hnp h3 (by rw [htv, h2]; exact rep_undef _ _) (by rw [hst]; exact h4))
            | load =>
              rw [hk] at hs
              obtain ⟨hA', hv⟩ := hs
              obtain ⟨hv, had⟩ := hv hw
              have hnei : isEff X oi = false := by simp [isEff, hk]
              have hst := hst_non hnei
              rw [← worldD_congr hops] at hv
              rw [← loadAddr_congr hops] at had
              have hop : ∃ t x, oi.op = .load t x := by
                unfold drK at hk
                cases hopk : opK X.P oi.op <;> rw [hopk] at hk <;> simp only [reduceCtorEq] at hk
                cases hop : oi.op <;> rw [hop] at hk <;> (try (simp only [reduceCtorEq] at hk; done))
                · exfalso
                  cases hva : X.h.waitAl <;> simp [hva] at hk
                · exact ⟨_, _, rfl⟩
                · rename_i c
                  exfalso
                  obtain ⟨callee, args, ts⟩ := c
                  cases callee <;> (try (simp only [reduceCtorEq] at hk; done))
                  rename_i b
                  cases b <;> (try (simp only [reduceCtorEq] at hk; done))
                  cases hva : X.h.valApp <;> simp [hva] at hk
              obtain ⟨t, x, hop⟩ := hop
              rw [hop] at hv had
              simp only [worldD, Option.map_map, Function.comp_def, Option.map_id'] at hv
              simp only [loadAddr] at had
              have hslot : ∀ k off, evalO (envLm ops T e.t (fun j => listed.getD j false) ops.size) x = .ref k off → (stLm X ops B T (fun j => listed.getD j false) ops.size)[k]? = (tA B T i)[k]? := fun k off hk' =>
                slotAt (by simp [isLoad, hk]) k off (had.trans hk')
              have hld : loadD X.P t (evalO (envLm ops T e.t (fun j => listed.getD j false) ops.size) x) (stLm X ops B T (fun j => listed.getD j false) ops.size) = some T[i].d := by
                rw [loadD_congr hslot]
                exact hv
              obtain ⟨v, h1, h2⟩ := load_sim hld I (rep_eval he.t x)
              refine Oper.wpIn_value (z := v) (w' := w) hpo ?_ (next g w v hnp (Ext.refl _ _) (by rw [htv]; exact h2) (by rw [hst]; exact I))
              simp [execOp, hop, h1]
            | eff =>
              rw [hk] at hs
              obtain ⟨_, hv⟩ := hs
              obtain ⟨s1, s2⟩ := hst_eff (by simp [isEff, hk])
              rw [s1] at I
              rcases hv hw with ⟨hck, hcall⟩ | ⟨hwk, hwd⟩
              · rw [← callD_congr hops] at hcall
                refine call_sim hc hcall I he (fun g' w' d v hr' E' I' R => ?_) fun g' w' d t u hr' => by cases hr'
                cases hr'
                exact next g' w' v hnp E' (by rw [htv]; exact R) (by rw [s2]; exact I')
              · rw [← worldD_congr hops] at hwd
                obtain ⟨nx, w', g', h1, h2, h3, h4⟩ := world_sim hwd I he.t
                cases nx <;> simp only [NextOk] at h2
                case value z => exact Oper.wpIn_value hpo h1 (next g' w' z hnp h3 (by rw [htv]; exact h2) (by rw [s2]; exact h4))
                case skip => exact Oper.wpIn_skip hpo h1 (next g' w' undef hnp h3 (by rw [htv, h2]; exact rep_undef _ _) (by rw [s2]; exact h4))
  -- at the beginning nothing is done
  refine wpIn_region_any hfol ?_
  obtain ⟨E1, I1⟩ := I₀.drew
  obtain ⟨g₁, E2, I2, hl2, hw2⟩ := head_inv H hclosed I1
  rw [← hA0, hB] at I2
  have hno : ∀ j, (Array.replicate ops.size false).getD j false = false := by
    intro j
    simp [Array.getD_eq_getD_getElem?, Array.getElem?_replicate]
    split <;> rfl
  have hfun : (fun j => (Array.replicate ops.size false).getD j false) = fun _ => false := funext hno
  refine key ops.size _ a₀ w₀.drew g₁ (by simp) (fun i hi => by rw [hno i] at hi; cases hi) (fun _ _ => hno _) (by rw [hl2]; omega) (fun j oj hj hkj _ => ?_) (E1.trans E2) ?_ ?_ ?_
  · have hjlt := (Array.getElem?_eq_some_iff.1 hj).1
    have h1 := sq_le X ops A0.length (show j + 1 ≤ ops.size by omega)
    rw [sq_wait hj hkj, hlenH] at h1
    have h2 := sq_le X ops A0.length (show 0 ≤ j by omega)
    simp only [sq] at h2
    exact hw2 _ (by omega) (by omega)
  · rw [hfun]
    have : ∀ m, envLm ops T e.t (fun _ => false) m = e.t := by
      intro m
      induction m with
      | zero => rfl
      | succ m ih => simp [envLm, ih]
    rw [this]
    exact he₀.ext (E1.trans E2)
  · rw [hfun]
    have : ∀ m, stLm X ops B T (fun _ => false) m = B := by
      intro m
      induction m with
      | zero => rfl
      | succ m ih => simp [stLm, ih]
    rw [this]
    exact I2
  · rw [hfun]
    have : ∀ m, cntm (fun _ => false) m = m := by
      intro m
      induction m with
      | zero => rfl
      | succ m ih => simp [cntm, ih]
    rw [this]
    exact Nat.le_refl _
end Go.Vm
