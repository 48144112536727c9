/- VmRound, VmCode, VmCode2 in one text. -/
import Derived.Test.YtikjlgcbcljehaaGreatDoorVmRun
import Derived.RangeFuncRecord
set_option linter.all false
/- Code of one function, with loops over functions: the laws by which it is walked; one round; the function's own contract. -/
namespace Go.Vm
open Go.RowKit
set_option linter.unusedVariables false

theorem fenced_FR (P : Program) (ro : Option Nat) (m : Machine) : m.fenced P (FR ro) := fenced_wide P m
theorem room_FR (ro : Option Nat) (n : Nat) : (FR ro).room n := room_wide n
/-- 'wpIn' at the frames of one function, outside of rounds -/
def wpF (f : FuncId) (P : Program) (c : Code) (Q : Exit → Act → World → Prop) (a : Act) (w : World) : Prop :=
  ∀ (b : Frame) (k : List Item) (cs : List Frame), b.roundOf = none → b.fn = f →
    ∃ e a' w', Q e a' w' ∧ ArrivesIn (Machine.fenced P (FR none)) P (lone (b.atR a (.code c :: k)) cs w) b k cs e a' w'

section
variable {f : FuncId} {P : Program} {Q : Exit → Act → World → Prop} {a : Act} {w : World}
theorem wpF_of_wpIn {c : Code} (h : c.wpIn (FR none) 0 P Q a w) : wpF f P c Q a w := fun b k cs hro _ => h b k cs hro trivial (room_FR _ _)
theorem wpF_seq {x y : Code} (h : wpF f P x (Exit.then (wpF f P y Q) Q) a w) : wpF f P (.seq x y) Q a w := by
  intro b k cs hro hb
  have h0 : (lone (b.atR a (.code (.seq x y) :: k)) cs w).fenced P (FR none) := fenced_FR _ _ _
  obtain ⟨e, a₁, w₁, hq, harr⟩ := h b (.code y :: k) cs hro hb
  cases e with
  | normal =>
    obtain ⟨e₂, a₂, w₂, hq₂, harr₂⟩ := hq b k cs hro hb
    exact ⟨e₂, a₂, w₂, hq₂, .of_steps (.head h0 stepR_seq harr) harr₂⟩
  | exit id => exact ⟨_, a₁, w₁, hq, .of_steps (.one h0 stepR_seq) (.pass (x := .code y) rfl (fun _ _ => .inl (by simp)) harr)⟩
  | goto l => exact ⟨_, a₁, w₁, hq, .of_steps (.one h0 stepR_seq) (.pass (x := .code y) rfl (fun _ _ => .inl (by simp)) harr)⟩
  | ret => exact ⟨_, a₁, w₁, hq, .of_steps (.one h0 stepR_seq) (.pass (x := .code y) rfl (fun _ _ => .inl (by simp)) harr)⟩
  | panic ch => exact ⟨_, a₁, w₁, hq, .of_steps (.one h0 stepR_seq) (.pass (x := .code y) rfl (fun _ _ => .inl (by simp)) harr)⟩
  | outgrown => exact ⟨_, a₁, w₁, hq, .of_steps (.one h0 stepR_seq) (.pass (x := .code y) rfl (fun _ _ => .inl (by simp)) harr)⟩
theorem wpF_cond {c : Operand} {x y : Code} {t : Bool} (hc : a.eval c = .bool t) (h : wpF f P (if t then x else y) Q a w) : wpF f P (.cond c x y) Q a w :=
  fun b k cs hro hb => let ⟨e, a', w', q, r⟩ := h b k cs hro hb; ⟨e, a', w', q, .of_steps (.one (fenced_FR _ _ _) (stepR_cond hc)) r⟩
theorem wpF_block {id : Nat} {c : Code} (h : wpF f P c (Exit.inBlock id Q) a w) : wpF f P (.block id c) Q a w := by
  intro b k cs hro hb
  have h0 : (lone (b.atR a (.code (.block id c) :: k)) cs w).fenced P (FR none) := fenced_FR _ _ _
  obtain ⟨e, a₁, w₁, hq, harr⟩ := h b (.inBlock id :: k) cs hro hb
  cases e with
  | normal => exact ⟨.normal, a₁, w₁, hq, .head h0 stepR_block (StepsIn.trans harr (.one (fenced_FR _ _ _) stepR_inBlock))⟩
  | exit id' =>
    by_cases hid : id' = id
    · simp only [Exit.inBlock, hid, if_true] at hq
      exact ⟨.normal, a₁, w₁, hq, .head h0 stepR_block (harr.1 k (by simp [exitTo, hid]))⟩
    · simp only [Exit.inBlock, hid, if_false] at hq
      have this : (id == id') = false := by simp; exact fun h => hid h.symm
      have hx : exitTo id' (.inBlock id :: k) = exitTo id' k := by simp [exitTo, this]
      exact ⟨.exit id', a₁, w₁, hq, fun k' hk => .head h0 stepR_block (harr.1 k' (by rw [hx]; exact hk)),
        fun hr' hk => let ⟨k₁, h1, h2⟩ := harr.2 hr' (by rw [hx]; exact hk); ⟨k₁, h1, .head h0 stepR_block h2⟩⟩
  | goto l =>
    have hx : gotoIn l (.inBlock id :: k) = gotoIn l k := by simp [gotoIn]
    exact ⟨_, a₁, w₁, hq, fun k' hk => .head h0 stepR_block (harr.1 k' (by rw [hx]; exact hk)),
      fun hr' hk => let ⟨k₁, h1, h2⟩ := harr.2 hr' (by rw [hx]; exact hk); ⟨k₁, h1, .head h0 stepR_block h2⟩⟩
  | ret => exact ⟨_, a₁, w₁, hq, .of_steps (.one h0 stepR_block) harr⟩
  | panic ch => exact ⟨_, a₁, w₁, hq, .of_steps (.one h0 stepR_block) harr⟩
  | outgrown => exact ⟨_, a₁, w₁, hq, .of_steps (.one h0 stepR_block) harr⟩
def roundsF (f : FuncId) (P : Program) (c : Code) (Q : Exit → Act → World → Prop) : Nat → Act → World → Prop
  | 0, _, _ => False
  | m + 1, a, w => wpF f P c (Exit.then (roundsF f P c Q m) Q) a w
theorem wpF_loop_rounds {c : Code} (m : Nat) (h : roundsF f P c Q m a w) : wpF f P (.loop c) Q a w := by
  intro b k cs hro hb
  have key : ∀ m a w, roundsF f P c Q m a w →
      ∃ e a' w', Q e a' w' ∧ ArrivesIn (Machine.fenced P (FR none)) P (lone (b.atR a (.code c :: .inLoop c :: k)) cs w) b k cs e a' w' := by
    intro m
    induction m with
    | zero => intro a w h; exact h.elim
    | succ m ih =>
      intro a w h
      obtain ⟨e, a₁, w₁, hq, harr⟩ := h b (.inLoop c :: k) cs hro hb
      cases e with
      | normal =>
        obtain ⟨e₂, a₂, w₂, hq₂, harr₂⟩ := ih a₁ w₁ hq
        exact ⟨e₂, a₂, w₂, hq₂, .of_steps (StepsIn.trans harr (.one (fenced_FR _ _ _) stepR_inLoop)) harr₂⟩
      | exit id => exact ⟨_, a₁, w₁, hq, .pass (x := .inLoop c) rfl (fun _ _ => .inl (by simp)) harr⟩
      | goto l => exact ⟨_, a₁, w₁, hq, .pass (x := .inLoop c) rfl (fun _ _ => .inl (by simp)) harr⟩
      | ret => exact ⟨_, a₁, w₁, hq, .pass (x := .inLoop c) rfl (fun _ _ => .inl (by simp)) harr⟩
      | panic ch => exact ⟨_, a₁, w₁, hq, .pass (x := .inLoop c) rfl (fun _ _ => .inl (by simp)) harr⟩
      | outgrown => exact ⟨_, a₁, w₁, hq, .pass (x := .inLoop c) rfl (fun _ _ => .inl (by simp)) harr⟩
  obtain ⟨e, a', w', hq, harr⟩ := key m a w h
  exact ⟨e, a', w', hq, .of_steps (.one (fenced_FR _ _ _) stepR_loop) harr⟩

/-- the statement 'for .. := range g { .. }' -/
def endF (f : FuncId) (P : Program) (l : Nat) (Q : Exit → Act → World → Prop) (a' : Act) : Ending → World → Prop
  | .returned _, w₃ => ∃ jump w₄, (Instr.endLoop l).run P w₃ = .ok jump w₄ ∧
      (match jump with
       | none => Q .normal a' w₄
       | some c => wpF f P c Q a' w₄)
  | .panicked chain, w₃ => Q (.panic chain) a' w₃
  | .outgrown, _ => False
theorem wpF_rangeFunc {g : Operand} {ps : Array Tmp} {assign body : Code} {l : Nat} {mark : List Deferred} {w₁ w₁' w₂ : World} {d : Deferred} {q : FuncId} {args : Array Value}
    (he : (Instr.enterLoop f a.tmps ps assign body none).run P w = .ok (l, mark) w₁)
    (hres : (resolve a.eval (rangeCall g l) 0).run P w₁ = .ok d w₁')
    (hinv : (invoke d.target d.args).run P w₁' = .ok (.enter q args) w₂)
    (hc : Calls P q args w₂ (endF f P l Q { a with defers := mark ++ a.defers })) : wpF f P (.rangeFunc g ps assign body) Q a w := by
  intro b k cs hro hb
  subst hb
  rw [← hro] at he
  have henter := stepR_rangeFunc (P := P) (b := b) (a := a) (k := k) (cs := cs) (w := w) he hres hinv
  obtain ⟨e, w₃, fr, hR, hsteps, hfn, hleave⟩ := hc (b.atR { a with defers := mark ++ a.defers } (.inRangeFunc l :: k) :: cs)
  have st : ∀ {m m' : Machine}, Steps P m m' → StepsIn (Machine.fenced P (FR none)) P m m' := fun h => (StepsIn.of_steps h).mono fun m _ => fenced_FR P none m
  cases e with
  | outgrown => exact hR.elim
  | returned v =>
    obtain ⟨jump, w₄, hend, hj⟩ := hR
    have sback : StepsIn (Machine.fenced P (FR none)) P (lone (b.atR a (.code (.rangeFunc g ps assign body) :: k)) cs w) (lone (b.atR { a with defers := mark ++ a.defers } ((jump.map Item.code).toList ++ k)) cs w₄) := by
      refine .head (fenced_FR _ _ _) henter (StepsIn.trans (st hsteps) (.head (fenced_FR _ _ _) ?_ (.one (fenced_FR _ _ _) (stepR_endRangeFunc hend))))
      rw [← finish_atR_inRangeFunc l v]; exact step_leave_returned hleave
    cases jump with
    | none => exact ⟨.normal, _, w₄, hj, sback⟩
    | some c =>
      obtain ⟨e', a'', w₅, hq, harr⟩ := hj b k cs hro rfl
      exact ⟨e', a'', w₅, hq, .of_steps sback harr⟩
  | panicked chain =>
    refine ⟨.panic chain, _, w₃, hR, .inRangeFunc l :: k, .head (fenced_FR _ _ _) henter (StepsIn.trans (st hsteps) (.one (fenced_FR _ _ _) ?_))⟩
    rw [← Frame.raise_atR]; exact step_leave_panicked hleave
end

/-! one round -/
/-- what is asked at a round's end -/
def roundPostM (P : Program) (l : Nat) (R : Ending → World → Prop) : Exit → Act → World → Prop
  | .panic chain, a, w => a.defers = [] ∧ R (.panicked chain) w
  | e, a, w => roundPost P l R e a w
theorem step_round_panicked {P : Program} {fr c : Frame} {cs : List Frame} {w : World} {chain : List PanicEntry} {fn : Func} (hm : fr.mode = .panicking chain) (hd : fr.defers = []) (hf : P.funcs[fr.fn]? = some fn) :
    step P (lone fr (c :: cs) w) = .next (lone (c.raise chain) cs w) :=
  step_lone_go (by simp [stepG, unwind, Frame.catches, hm, hd, hf])
theorem round_of_wpIn {P : Program} {l : Nat} {f : FuncId} {fn : Func} (hf : P.funcs[f]? = some fn) {tmps : Array Value} {assign body : Code} {w : World} {R : Ending → World → Prop}
    (h : assign.wpIn (FR (some l)) 0 P (Exit.then (fun a₁ w₁ => ∃ w₂, (Instr.beginRound l).run P w₁ = .ok () w₂ ∧ body.wpIn (FR (some l)) 0 P (roundPostM P l R) a₁ w₂) (fun _ _ _ => False))
      { tmps := tmps, defers := [] } w) :
    RoundIn (FR none) 0 P l f tmps assign body w R := by
  refine ⟨trivial, fun c cs hr => ?_⟩
  let b : Frame := { (default : Frame) with fn := f, kind := .normal, roundOf := some l }
  have hb0 : Frame.round l f tmps assign body .normal = b.atR { tmps := tmps, defers := [] } [.code assign, .beginRound, .code body] := by
    simp [Frame.round, Frame.atR, b]
  obtain ⟨e, a₁, w₁, hq, harr⟩ := h b [.beginRound, .code body] (c :: cs) rfl trivial (room_FR _ _)
  rw [← hb0] at harr
  have F : ∀ m : Machine, m.fenced P (FR (some l)) := fenced_FR P _
  cases e with
  | normal =>
    obtain ⟨w₂, hbr, hbody⟩ := hq
    have s1 : StepsIn (Machine.fenced P (FR (some l))) P (lone (b.atR a₁ [.beginRound, .code body]) (c :: cs) w₁) (lone (b.atR a₁ [.code body]) (c :: cs) w₂) :=
      .one (F _) (stepR_beginRound rfl hbr)
    obtain ⟨e₂, a₂, w₃, hq₂, harr₂⟩ := hbody b [] (c :: cs) rfl trivial (room_FR _ _)
    cases e₂ with
    | normal =>
      obtain ⟨v, w₄, hend, hR⟩ := hq₂
      exact ⟨.returned v, w₄, hR, (StepsIn.trans harr s1).trans (StepsIn.trans harr₂ (.one (F _) (stepR_round_end rfl rfl hend)))⟩
    | ret =>
      obtain ⟨v, w₄, hend, hR⟩ := hq₂
      obtain ⟨k₁, hs⟩ := harr₂.2 rfl
      exact ⟨.returned v, w₄, hR, (StepsIn.trans harr s1).trans (StepsIn.trans hs (.one (F _) (stepR_round_ret rfl rfl hend)))⟩
    | exit id =>
      obtain ⟨v, w₄, hend, hR⟩ := hq₂
      obtain ⟨k₁, hk, hs⟩ := harr₂.2 rfl rfl
      exact ⟨.returned v, w₄, hR, (StepsIn.trans harr s1).trans (StepsIn.trans hs (.one (F _) (stepR_round_exit rfl rfl hk hend)))⟩
    | goto t =>
      obtain ⟨v, w₄, hend, hR⟩ := hq₂
      obtain ⟨k₁, hk, hs⟩ := harr₂.2 rfl rfl
      exact ⟨.returned v, w₄, hR, (StepsIn.trans harr s1).trans (StepsIn.trans hs (.one (F _) (stepR_round_goto rfl rfl hk hend)))⟩
    | panic chain =>
      obtain ⟨hd, hR⟩ := hq₂
      obtain ⟨todo, hs⟩ := harr₂
      exact ⟨.panicked chain, w₃, hR, (StepsIn.trans harr s1).trans (StepsIn.trans hs (.one (F _) (step_round_panicked (fn := fn) rfl hd hf)))⟩
    | outgrown => exact hq₂.elim
  | exit id => exact hq.elim
  | goto t => exact hq.elim
  | ret => exact hq.elim
  | panic chain => exact hq.elim
  | outgrown => exact hq.elim

/-! a function's end, with marks among its deferred calls -/
def LeavesM (P : Program) (fn : Func) (tmps : Array Value) (R : Ending → World → Prop) : List Deferred → FrameMode → World → Prop
  | [], u, w => Leaves P fn tmps R [] u w
  | d :: ds, u, w => u ≠ .run ∧
      ((∃ r w', d.target = .collected r ∧ (Instr.takeDeferred r).run P w = .ok [] w' ∧ LeavesM P fn tmps R ds u w') ∨
       (∃ fv cap f args, d.target = .fn fv cap ∧ (invoke d.target d.args).run P w = .ok (.enter f args) w ∧
        CallsD P f args u w fun
          | .returned _, u', w' => LeavesM P fn tmps R ds (settle u') w'
          | .panicked chain, u', w' => LeavesM P fn tmps R ds (raised u' chain) w'
          | .outgrown, _, w' => R .outgrown w'))
theorem leaves_stepsM {P : Program} {fn : Func} {tmps : Array Value} {R : Ending → World → Prop} : ∀ (ds : List Deferred) (u : FrameMode) (w : World) (fr : Frame)
    (cs : List Frame), fr.mode = u → fr.defers = ds → fr.tmps = tmps → P.funcs[fr.fn]? = some fn → fr.kind = .normal → LeavesM P fn tmps R ds u w →
    ∃ e w' fr', R e w' ∧ Comes P (lone fr cs w) (lone fr' cs w') e ∧ fr'.fn = fr.fn ∧ fr'.leaving P w' e := by
  intro ds
  induction ds with
  | nil => exact fun u w fr cs hu hd ht hf hk h => leaves_steps [] u w fr cs hu hd ht hf hk h
  | cons d ds ih =>
    intro u w fr cs hu hd ht hf hk h
    obtain ⟨hrun, h⟩ := h
    rcases h with ⟨r, w', htar, htake, hrest⟩ | ⟨fv, cap, f, args, htar, hinv, hcall⟩
    · have h1 := step_collected (cs := cs) (hu ▸ hrun) hd htar htake
      obtain ⟨e', w'', fr', hR', hs', hfn', hl'⟩ := ih u w' { fr with defers := [] ++ ds } cs hu rfl ht hf hk hrest
      exact ⟨e', w'', fr', hR', Comes.of_steps (.one h1) hs', hfn', hl'⟩
    · have h1 := step_defer (cs := cs) (hu ▸ hrun) hd htar hinv
      obtain ⟨e, u', w', frX, hR, hsteps, hkX, hgo⟩ := hcall { fr with defers := ds } cs hu
      cases e with
      | returned v =>
        have h2 := step_going_returned (c := { { fr with defers := ds } with mode := u' }) (cs := cs) hkX hgo
        obtain ⟨e', w'', fr', hR', hs', hfn', hl'⟩ := ih (settle u') w' { { { fr with defers := ds } with mode := u' } with mode := settle u' } cs rfl rfl ht hf hk hR
        exact ⟨e', w'', fr', hR', Comes.of_steps (.head h1 (Steps.trans hsteps (.one h2))) hs', hfn', hl'⟩
      | panicked chain =>
        have h2 := step_going_panicked (c := { { fr with defers := ds } with mode := u' }) (cs := cs) hgo
        obtain ⟨e', w'', fr', hR', hs', hfn', hl'⟩ := ih (raised u' chain) w' { { { fr with defers := ds } with mode := u' } with mode := raised u' chain } cs rfl rfl ht hf hk hR
        exact ⟨e', w'', fr', hR', Comes.of_steps (.head h1 (Steps.trans hsteps (.one h2))) hs', hfn', hl'⟩
      | outgrown => exact ⟨.outgrown, w', fr, hR, Outgrown.of_steps (.one h1) hsteps, rfl, trivial⟩
/-- what a function's body must come to -/
def bodyPostMM (P : Program) (fn : Func) (R : Ending → World → Prop) : Exit → Act → World → Prop
  | .normal, a, w | .ret, a, w => LeavesM P fn a.tmps R a.defers .returning w
  | .panic chain, a, w => LeavesM P fn a.tmps R a.defers (.panicking chain) w
  | _, _, _ => False
theorem calls_of_wpF {P : Program} {f : FuncId} {fn : Func} {c : Code} {args : Array Value} {w : World} {R : Ending → World → Prop}
    (hf : P.funcs[f]? = some fn) (hb : fn.body = some c)
    (h : wpF f P c (bodyPostMM P fn R) { tmps := args ++ Array.replicate (fn.ntmps - args.size) undef, defers := [] } w) : Calls P f args w R := by
  intro cs
  let b : Frame := { (default : Frame) with fn := f, kind := .normal, roundOf := none }
  have henter : Frame.enter P f args .normal =
      b.atR { tmps := args ++ Array.replicate (fn.ntmps - args.size) undef, defers := [] } [.code c] := by
    simp [Frame.enter, Frame.atR, hf, hb, b]
  obtain ⟨e, a', w', hq, harr⟩ := h b [] cs rfl rfl
  rw [← henter] at harr
  cases e with
  | normal =>
    obtain ⟨e', w'', fr', hR, hs, hfn, hl⟩ := leaves_stepsM a'.defers .returning w' { b.atR a' [] with mode := .returning } cs rfl rfl rfl hf rfl hq
    exact ⟨e', w'', fr', hR, Comes.of_steps (Steps.trans (StepsIn.steps harr) (.one (stepR_end rfl))) hs, hfn, hl⟩
  | ret =>
    obtain ⟨todo, hs₀⟩ := harr.1 rfl
    obtain ⟨e', w'', fr', hR, hs, hfn, hl⟩ := leaves_stepsM a'.defers .returning w' { b.atR a' todo with mode := .returning } cs rfl rfl rfl hf rfl hq
    exact ⟨e', w'', fr', hR, Comes.of_steps (StepsIn.steps hs₀) hs, hfn, hl⟩
  | panic chain =>
    obtain ⟨todo, hs₀⟩ := harr
    obtain ⟨e', w'', fr', hR, hs, hfn, hl⟩ := leaves_stepsM a'.defers (.panicking chain) w' { b.atR a' todo with mode := .panicking chain } cs rfl rfl rfl hf rfl hq
    exact ⟨e', w'', fr', hR, Comes.of_steps (StepsIn.steps hs₀) hs, hfn, hl⟩
  | exit id => exact hq.elim
  | goto l => exact hq.elim
  | outgrown => exact hq.elim
end Go.Vm

/- Code: what the abstract run says holds of the model's run; but for regions that draw, which are asked for. -/
namespace Go.Vm
open Go.RowKit
set_option linter.unusedVariables false

def DrawOk (X : Cx) : Prop := ∀ (id : Nat) (ops : Array Oper) (e : Env) (A : St) (o : Out), drawD X ops e A = some o → ∀ (g : Gh) (w : World) (a : Act), Inv g A w → EnvOk X.n g w e a →
  ∀ ro : Option Nat, ∀ Q : Exit → Act → World → Prop, (∀ ex a' w', OutOk X.n g w o ex a' w' → Q ex a' w') → (Code.region id ops true).wpIn (FR ro) 0 X.P Q a w
/-- code and its abstract run -/
def BodyOk (ro : Option Nat) (X : Cx) (c : Code) (body : Env → St → Option Out) : Prop := ∀ (e : Env) (A : St) (o : Out), body e A = some o → ∀ (g : Gh) (w : World) (a : Act), Inv g A w → EnvOk X.n g w e a →
  ∀ Q : Exit → Act → World → Prop, (∀ ex a' w', OutOk X.n g w o ex a' w' → Q ex a' w') → c.wpIn (FR ro) 0 X.P Q a w

theorem repL_range {gh : Gh} {w : World} {e : List D} {vs : List Value} (h : RepL gh w e vs) (f : Nat → D) (hf : ∀ (i : Nat) d, e[i]? = some d → f i = d ∨ f i = .any) :
    RepL gh w ((List.range e.length).map f) vs := by
  refine RepL.of_get (by simp [h.length]) fun i d v h1 h2 => ?_
  rw [List.getElem?_map] at h1
  simp only [Option.map_eq_some_iff] at h1
  obtain ⟨j, hj, rfl⟩ := h1
  have hji : j = i := by
    have := (List.getElem?_eq_some_iff.1 hj)
    obtain ⟨h3, h4⟩ := this
    simpa using h4.symm
  subst hji
  have hlt : j < e.length := by
    have := (List.getElem?_eq_some_iff.1 hj).1
    simpa using this
  obtain ⟨u, hu, hr⟩ := h.get (List.getElem?_eq_getElem hlt)
  rw [h2] at hu
  cases hu
  rcases hf j _ (List.getElem?_eq_getElem hlt) with h | h
  · rw [h]; exact hr
  · rw [h]; simp [Rep]
theorem EnvOk.expand {n : Nat} {g : Gh} {w : World} {e : Env} {a : Act} (h : EnvOk n g w e a) : EnvOk n g w (expand n e) a := by
  refine ⟨by simp [Vm.expand], ?_, h.df⟩
  have := repL_range h.t (fun i => e.t.getD i .any) fun i d hi => .inl (by simp [List.getD, hi])
  rw [h.len] at this
  exact this
theorem EnvOk.mask {n : Nat} {g : Gh} {w : World} {e : Env} {a : Act} (h : EnvOk n g w e a) (live : Option (List Nat)) : EnvOk n g w (mask n live e) a := by
  unfold Vm.mask
  cases live with
  | none => exact h
  | some l =>
    refine ⟨by simp, ?_, h.df⟩
    have := repL_range h.t (fun i => cond (l.contains i) (e.t.getD i .any) .any) fun i d hi => by
      cases l.contains i
      · exact .inr rfl
      · exact .inl (by simp [List.getD, hi])
    rw [h.len] at this
    exact this
theorem OutOk.atEnd {n : Nat} {g : Gh} {w : World} {o : Out} {ex : Exit} {a' : Act} {w' : World} {live : Option (List Nat)} (h : OutOk n g w o ex a' w') : OutOk n g w (o.atEnd n live) ex a' w' := by
  obtain ⟨g', E, I, he, hex⟩ := h
  unfold Out.atEnd
  cases live with
  | none => exact ⟨g', E, I, he, hex⟩
  | some l =>
    cases o with
    | mk oe env st =>
      cases oe with
      | normal => exact ⟨g', E, I, he.mask (some l), hex⟩
      | exit i => exact ⟨g', E, I, he, hex⟩
      | ret => exact ⟨g', E, I, he, hex⟩
      | pan d => exact ⟨g', E, I, he, hex⟩

/-- a round: what it leaves is sealed -/
theorem step_ok {ro : Option Nat} {X : Cx} {c : Code} {body : Env → St → Option Out} (hb : BodyOk ro X c body) (live : Option (List Nat)) (keep : Bool) : BodyOk ro X c (stepD X.n live keep body) := by
  intro e A o h g w a I he Q hQ
  simp only [stepD, Option.bind_eq_some_iff] at h
  obtain ⟨o1, h1, h⟩ := h
  unfold Out.norm at h
  refine hb _ A o1 h1 g w a I he.expand Q fun ex a' w' ⟨g1, E, I1, he1, hex⟩ => ?_
  cases hx : o1.ex with
  | normal =>
    rw [hx] at h hex
    simp only at h
    cases keep with
    | true =>
      simp only [cond_true, Option.some.injEq] at h
      subst h
      exact hQ _ _ _ ⟨g1, E, I1, he1.mask live, hex⟩
    | false =>
      simp only [cond_false] at h
      obtain ⟨hk, h⟩ := guardP_eq.1 h
      · cases h
        obtain ⟨E', I', K⟩ := I.trunc E I1 hk
        have hm := he1.mask live
        refine hQ _ _ _ ⟨_, E', I', ⟨by simp [Env.shut, hm.len], ?_, ?_⟩, by cases ex <;> first | trivial | exact hex.elim⟩
        · have := RepL.keep K _ _ hm.t
          rw [← I.len]
          exact this
        · have := RepDf.keep K hm.df
          rw [← I.len]
          exact this
  | exit id => rw [hx] at h hex; simp only [Option.some.injEq] at h; subst h; exact hQ _ _ _ ⟨g1, E, I1, he1, by rw [hx]; exact hex⟩
  | ret => rw [hx] at h hex; simp only [Option.some.injEq] at h; subst h; exact hQ _ _ _ ⟨g1, E, I1, he1, by rw [hx]; exact hex⟩
  | pan d => rw [hx] at h hex; simp only [Option.some.injEq] at h; subst h; exact hQ _ _ _ ⟨g1, E, I1, he1, by rw [hx]; exact hex⟩

theorem loop_ok {ro : Option Nat} {X : Cx} {c : Code} {step : Env → St → Option Out} (hb : BodyOk ro X c step) (k : Nat) : BodyOk ro X (.loop c) (iterN k step) := by
  intro e A o h g w a I he Q hQ
  refine wpIn_loop_rounds k ?_
  have key : ∀ k e A, iterN k step e A = some o → ∀ (g : Gh) (w : World) (a : Act), Inv g A w → EnvOk X.n g w e a → (∀ ex a' w', OutOk X.n g w o ex a' w' → Q ex a' w') →
      Code.roundsIn (FR ro) 0 X.P c Q k a w := by
    intro k
    induction k with
    | zero => intro e A h; simp [iterN] at h
    | succ k ih =>
      intro e A h g w a I he hQ
      simp only [iterN, Option.bind_eq_some_iff] at h
      obtain ⟨o1, h1, h⟩ := h
      refine hb e A o1 h1 g w a I he _ fun ex a1 w1 ⟨g1, E, I1, he1, hex⟩ => ?_
      cases hx : o1.ex with
      | normal =>
        rw [hx] at h hex
        cases ex <;> simp only [ExOk] at hex
        exact ih o1.env o1.st h g1 w1 a1 I1 he1 fun ex a' w' ho => hQ _ _ _ (ho.ext E)
      | exit id =>
        rw [hx] at h hex
        simp only [Option.some.injEq] at h
        subst h
        cases ex <;> simp only [ExOk] at hex
        exact hQ _ _ _ ⟨g1, E, I1, he1, by rw [hx]; exact hex⟩
      | ret =>
        rw [hx] at h hex
        simp only [Option.some.injEq] at h
        subst h
        cases ex <;> simp only [ExOk] at hex
        exact hQ _ _ _ ⟨g1, E, I1, he1, by rw [hx]; trivial⟩
      | pan d =>
        rw [hx] at h hex
        simp only [Option.some.injEq] at h
        subst h
        cases ex <;> simp only [ExOk] at hex
        exact hQ _ _ _ ⟨g1, E, I1, he1, by rw [hx]; exact hex⟩
  exact key k e A h g w a I he hQ

theorem plainOp_at {o : Oper} (h : plainOp o = true) (ro : Option Nat) : PlainAt ro o := .inr fun c hc => by
  unfold plainOp at h
  rw [hc] at h
  cases h
theorem plain_ops {ro : Option Nat} {id : Nat} {ops : Array Oper} {draw : Bool} (h : ro = none ∨ plainC (.region id ops draw) = true) : PlainOps ro ops.toList := by
  intro o ho
  rcases h with rfl | h
  · exact .inl rfl
  · simp only [plainC] at h
    exact plainOp_at (Array.all_eq_true'.1 h o (by simpa using ho)) ro
def ItOk (it : (Env → St → Option Out) → Env → St → Option Out) : Prop := ∀ step e A o, it step e A = some o → ∃ k, iterN k step e A = some o

theorem plain_noRf : ∀ c : Code, plainC c = true → noRf c = true := by
  intro c
  induction c <;> simp_all [plainC, noRf]
theorem code_sim (X : Cx) (hc : CallOk X.P X.call) (hi : ItOk X.it) (hd : DrawOk X) (ro : Option Nat) : ∀ c : Code, noRf c = true → (ro = none ∨ plainC c = true) → BodyOk ro X c (codeD X c) := by
  intro c
  induction c with
  | skip =>
    intro hnr hpl e A o h g w a I he Q hQ
    simp only [codeD, Option.some.injEq] at h
    subst h
    exact wpIn_skip (hQ _ _ _ ⟨g, Ext.refl _ _, I, he, trivial⟩)
  | label l =>
    intro hnr hpl e A o h g w a I he Q hQ
    simp only [codeD, Option.some.injEq] at h
    subst h
    exact wpIn_label (hQ _ _ _ ⟨g, Ext.refl _ _, I, he, trivial⟩)
  | exit id =>
    intro hnr hpl e A o h g w a I he Q hQ
    simp only [codeD, Option.some.injEq] at h
    subst h
    exact wpIn_exit (hQ _ _ _ ⟨g, Ext.refl _ _, I, he, rfl⟩)
  | ret =>
    intro hnr hpl e A o h g w a I he Q hQ
    simp only [codeD, Option.some.injEq] at h
    subst h
    exact wpIn_ret (hQ _ _ _ ⟨g, Ext.refl _ _, I, he, trivial⟩)
  | region id ops draw =>
    intro hnr hpl e A o h g w a I he Q hQ
    simp only [codeD] at h
    cases draw with
    | false => exact wpIn_region_list (ops_sim X hc ops X.n ro ops.toList e A o (plain_ops hpl) h g w a I he Q hQ)
    | true => exact hd id ops e A o h g w a I he ro Q hQ
  | seq x y ihx ihy =>
    intro hnr hpl e A o h g w a I he Q hQ
    simp only [codeD, Option.bind_eq_some_iff] at h
    obtain ⟨o1, h1, h⟩ := h
    have hpx : ro = none ∨ plainC x = true := hpl.imp id fun h => by simp only [plainC, Bool.and_eq_true] at h; exact h.1
    have hpy : ro = none ∨ plainC y = true := hpl.imp id fun h => by simp only [plainC, Bool.and_eq_true] at h; exact h.2
    refine wpIn_seq (ihx (by simp only [noRf, Bool.and_eq_true] at hnr; exact hnr.1) hpx e A o1 h1 g w a I he _ fun ex a' w' ⟨g1, E, I1, he1, hex⟩ => ?_)
    unfold Out.seq at h
    cases hx : o1.ex with
    | normal =>
      rw [hx] at h hex
      cases ex <;> simp only [ExOk] at hex
      exact ihy (by simp only [noRf, Bool.and_eq_true] at hnr; exact hnr.2) hpy _ _ o h g1 w' a' I1 he1.expand Q fun ex a2 w2 ho => hQ _ _ _ (ho.ext E)
    | exit id =>
      rw [hx] at h hex
      simp only [Option.some.injEq] at h
      subst h
      cases ex <;> simp only [ExOk] at hex
      exact hQ _ _ _ ⟨g1, E, I1, he1, by simpa [ExOk] using hex⟩
    | ret =>
      rw [hx] at h hex
      simp only [Option.some.injEq] at h
      subst h
      cases ex <;> simp only [ExOk] at hex
      exact hQ _ _ _ ⟨g1, E, I1, he1, trivial⟩
    | pan d =>
      rw [hx] at h hex
      simp only [Option.some.injEq] at h
      subst h
      cases ex <;> simp only [ExOk] at hex
      exact hQ _ _ _ ⟨g1, E, I1, he1, hex⟩
  | cond c x y ihx ihy =>
    intro hnr hpl e A o h g w a I he Q hQ
    simp only [codeD, Option.bind_eq_some_iff] at h
    obtain ⟨t, ht, h⟩ := h
    simp only [Option.map_eq_some_iff] at h
    obtain ⟨o1, h, rfl⟩ := h
    have hv := bool?_rep ht (rep_eval he.t c)
    refine wpIn_cond hv ?_
    cases t
    · exact ihy (by simp only [noRf, Bool.and_eq_true] at hnr; exact hnr.2) (hpl.imp id fun h => by simp only [plainC, Bool.and_eq_true] at h; exact h.2) e A o1 h g w a I he Q fun ex a' w' ho => hQ ex a' w' ho.atEnd
    · exact ihx (by simp only [noRf, Bool.and_eq_true] at hnr; exact hnr.1) (hpl.imp id fun h => by simp only [plainC, Bool.and_eq_true] at h; exact h.1) e A o1 h g w a I he Q fun ex a' w' ho => hQ ex a' w' ho.atEnd
  | block id c ih =>
    intro hnr hpl e A o h g w a I he Q hQ
    simp only [codeD, Option.map_eq_some_iff] at h
    obtain ⟨o1, h1, rfl⟩ := h
    refine wpIn_block (ih hnr hpl e A o1 h1 g w a I he _ fun ex a' w' ⟨g1, E, I1, he1, hex⟩ => ?_)
    unfold Out.block at hQ
    cases hx : o1.ex with
    | normal =>
      rw [hx] at hQ hex
      cases ex <;> simp only [ExOk] at hex
      exact hQ _ _ _ ⟨g1, E, I1, he1, by rw [hx]; trivial⟩
    | exit i =>
      rw [hx] at hQ hex
      cases ex <;> simp only [ExOk] at hex
      rename_i j
      subst hex
      simp only [Exit.inBlock]
      split
      · rename_i e
        exact hQ _ _ _ ⟨g1, E, I1, he1, by simp [e, ExOk]⟩
      · rename_i e
        exact hQ _ _ _ ⟨g1, E, I1, he1, by simp [e, ExOk]⟩
    | ret =>
      rw [hx] at hQ hex
      cases ex <;> simp only [ExOk] at hex
      exact hQ _ _ _ ⟨g1, E, I1, he1, by rw [hx]; trivial⟩
    | pan d =>
      rw [hx] at hQ hex
      cases ex <;> simp only [ExOk] at hex
      exact hQ _ _ _ ⟨g1, E, I1, he1, by rw [hx]; exact hex⟩
  | loop c ih =>
    intro hnr hpl e A o h g w a I he Q hQ
    simp only [codeD] at h
    obtain ⟨k, hk⟩ := hi _ _ _ _ h
    exact loop_ok (step_ok (ih hnr hpl) _ _) k _ A o hk g w a I (he.mask _) Q hQ
  | rangeFunc f ps x y => intro h; simp [noRf] at h
  | scope c => intro _ _ e A o h; simp [codeD] at h
  | goto l => intro _ _ e A o h; simp [codeD] at h
  | refuse s => intro _ _ e A o h; simp [codeD] at h
end Go.Vm

/- Loops over functions: what the abstract run says holds of the model's run; their rounds. -/
namespace Go.Vm
open Go.RowKit
set_option linter.unusedVariables false

theorem cell_of_heap {w w' : World} {b : Nat} (h : w'.heap[b]? = w.heap[b]?) (off : Nat) : w'.cell? ⟨b, off, none⟩ = w.cell? ⟨b, off, none⟩ ∧ w'.frozen? ⟨b, off, none⟩ = w.frozen? ⟨b, off, none⟩ := by
  simp only [World.cell?, World.frozen?, h]
  exact ⟨trivial, trivial⟩
/-- a block that is nobody's turns -/
theorem Inv.putFree {g : Gh} {A : St} {w : World} (I : Inv g A w) (l : Nat) (o : Obj) (ho : ∀ k, k < g.len → ∀ off, ¬ (g.m k).owns l off) (hs : ∀ off, ¬ g.stab l off) :
    Ext g w g (w.putObj l o) ∧ Inv g A (w.putObj l o) := by
  have hh : ∀ b, b ≠ l → (w.putObj l o).heap[b]? = w.heap[b]? := fun b hb => World.putObj_heap_other hb
  have E : Ext g w g (w.putObj l o) := by
    refine ⟨rfl, ⟨rfl, rfl, rfl, by simp, fun b hb => ?_⟩, fun _ _ h => h, fun b off hst => ?_, Nat.le_refl _, fun _ _ => BindLe.refl _⟩
    · exact hh b fun e => hs 0 (by subst e; exact .inl hb)
    · exact (cell_of_heap (hh b fun e => hs off (by subst e; exact .inr hst)) off).1
  refine ⟨E, ⟨I.len, by simpa using I.base, fun j s hj => ?_, I.sep, I.own, fun b off h => by simpa using I.old b off h⟩⟩
  have hlt : j < g.len := I.len ▸ (List.getElem?_eq_some_iff.1 hj).1
  refine (I.slot j s hj).keep E (fun b off hb => cell_of_heap (hh b fun e => ho j hlt off (by subst e; exact hb)) off) fun l' hl' => ?_
  exact hh l' fun e => ho j hlt 0 (by subst e; rw [hl']; rfl)
/-- the record's block turns -/
theorem Inv.putOwn {g : Gh} {A : St} {w : World} (I : Inv g A w) {k l : Nat} (hk : k < g.len) (hm : g.m k = .obj l) (o : Obj) (s : Slot)
    (hs : ∀ E : Ext g w g (w.putObj l o), SlotOk g (w.putObj l o) (.obj l) s) :
    Ext g w g (w.putObj l o) ∧ Inv g (A.set k s) (w.putObj l o) := by
  have hh : ∀ b, b ≠ l → (w.putObj l o).heap[b]? = w.heap[b]? := fun b hb => World.putObj_heap_other hb
  have := I.write (w' := w.putObj l o) k hk rfl rfl rfl (by simp) (fun b hb hn => hh b fun e => hn 0 (by subst e; rw [hm]; rfl))
    (fun b off hb hn => cell_of_heap (hh b fun e => hn (by subst e; rw [hm]; rfl)) off)
  exact ⟨this.1, this.2 s (by rw [hm]; exact hs this.1)⟩
/-- the record is done with -/
theorem Inv.drop {g : Gh} {A : St} {w : World} (I : Inv g A w) {k l : Nat} (hk : k < g.len) (hm : g.m k = .obj l) (o : Obj) :
    ∃ g', Ext g w g' (w.putObj l o) ∧ Inv g' (A.set k .dead) (w.putObj l o) := by
  obtain ⟨E1, I1⟩ := I.bind_set k hk .none .dead trivial (.inr (.inl ⟨by rw [hm]; exact fun h => (by cases h), rfl⟩)) fun b off h => h.elim
  have h1 : ∀ j, j < g.len → ∀ off, ¬ (upd g.m k Bind.none j).owns l off := by
    intro j hj off h
    by_cases e : j = k
    · subst e; simp only [upd_same] at h; exact h.elim
    · rw [show upd g.m k Bind.none j = g.m j from upd_ne _ _ e] at h
      exact e (I.sep j k l off hj hk h (by rw [hm]; rfl))
  have h2 : ∀ off, ¬ g.stab l off := fun off h => I.own k l off hk (by rw [hm]; rfl) h
  obtain ⟨E2, I2⟩ := I1.putFree l o h1 h2
  exact ⟨_, E1.trans E2, I2⟩
theorem obj_le {x y : Nat} (h : BindLe (.obj x) (.obj y)) : x = y := by
  rcases h with h | ⟨_, h⟩ | ⟨r, n, r', n', h, _⟩ <;> cases h
  rfl
theorem slot_obj {g : Gh} {A : St} {w : World} (I : Inv g A w) {k : Nat} {f : FuncId} {t : List D} {rf : Code} {st : RSt} (h : A[k]? = some (.loop f t rf st)) :
    ∃ l r, k < g.len ∧ g.m k = .obj l ∧ w.heap[l]? = some (.loop r) ∧ r.fn = f ∧ RepL g w t r.tmps.toList ∧ (∃ g0, rf = .rangeFunc g0 r.params r.assign r.body) ∧ StOk st r := by
  have hk : k < g.len := I.len ▸ (List.getElem?_eq_some_iff.1 h).1
  have hs := I.slot k _ h
  cases hm : g.m k <;> rw [hm] at hs <;> first | exact hs.elim | skip
  rename_i l
  obtain ⟨r, h1, h2, h3, h4, h5⟩ := hs
  exact ⟨l, r, hk, rfl, h1, h2, h3, h4, h5⟩
theorem slot_dfb {g : Gh} {A : St} {w : World} (I : Inv g A w) {k : Nat} (h : A[k]? = some .dfb) : ∃ l, k < g.len ∧ g.m k = .obj l ∧ w.heap[l]? = some (.deferred (some [])) := by
  have hk : k < g.len := I.len ▸ (List.getElem?_eq_some_iff.1 h).1
  have hs := I.slot k _ h
  cases hm : g.m k <;> rw [hm] at hs <;> first | exact hs.elim | skip
  rename_i l
  exact ⟨l, hk, rfl, hs⟩

def BodyOkF (X : Cx) (c : Code) (body : Env → St → Option Out) : Prop := ∀ (e : Env) (A : St) (o : Out), body e A = some o → ∀ (g : Gh) (w : World) (a : Act), Inv g A w → EnvOk X.n g w e a →
  ∀ Q : Exit → Act → World → Prop, (∀ ex a' w', OutOk X.n g w o ex a' w' → Q ex a' w') → wpF X.f X.P c Q a w
theorem BodyOk.toF {X : Cx} {c : Code} {body : Env → St → Option Out} (h : BodyOk none X c body) : BodyOkF X c body :=
  fun e A o ho g w a I he Q hQ => wpF_of_wpIn (h e A o ho g w a I he Q hQ)

theorem step_okF {X : Cx} {c : Code} {body : Env → St → Option Out} (hb : BodyOkF X c body) (live : Option (List Nat)) (keep : Bool) : BodyOkF X c (stepD X.n live keep body) := by
  intro e A o h g w a I he Q hQ
  simp only [stepD, Option.bind_eq_some_iff] at h
  obtain ⟨o1, h1, h⟩ := h
  unfold Out.norm at h
  refine hb _ A o1 h1 g w a I he.expand Q fun ex a' w' ⟨g1, E, I1, he1, hex⟩ => ?_
  cases hx : o1.ex with
  | normal =>
    rw [hx] at h hex
    simp only at h
    cases keep with
    | true =>
      simp only [cond_true, Option.some.injEq] at h
      subst h
      exact hQ _ _ _ ⟨g1, E, I1, he1.mask live, hex⟩
    | false =>
      simp only [cond_false] at h
      obtain ⟨hk, h⟩ := guardP_eq.1 h
      · cases h
        obtain ⟨E', I', K⟩ := I.trunc E I1 hk
        have hm := he1.mask live
        refine hQ _ _ _ ⟨_, E', I', ⟨by simp [Env.shut, hm.len], ?_, ?_⟩, by cases ex <;> first | trivial | exact hex.elim⟩
        · have := RepL.keep K _ _ hm.t
          rw [← I.len]
          exact this
        · have := RepDf.keep K hm.df
          rw [← I.len]
          exact this
  | exit id => rw [hx] at h hex; simp only [Option.some.injEq] at h; subst h; exact hQ _ _ _ ⟨g1, E, I1, he1, by rw [hx]; exact hex⟩
  | ret => rw [hx] at h hex; simp only [Option.some.injEq] at h; subst h; exact hQ _ _ _ ⟨g1, E, I1, he1, by rw [hx]; exact hex⟩
  | pan d => rw [hx] at h hex; simp only [Option.some.injEq] at h; subst h; exact hQ _ _ _ ⟨g1, E, I1, he1, by rw [hx]; exact hex⟩
theorem loop_okF {X : Cx} {c : Code} {step : Env → St → Option Out} (hb : BodyOkF X c step) (k : Nat) : BodyOkF X (.loop c) (iterN k step) := by
  intro e A o h g w a I he Q hQ
  refine wpF_loop_rounds k ?_
  have key : ∀ k e A, iterN k step e A = some o → ∀ (g : Gh) (w : World) (a : Act), Inv g A w → EnvOk X.n g w e a → (∀ ex a' w', OutOk X.n g w o ex a' w' → Q ex a' w') →
      roundsF X.f X.P c Q k a w := by
    intro k
    induction k with
    | zero => intro e A h; simp [iterN] at h
    | succ k ih =>
      intro e A h g w a I he hQ
      simp only [iterN, Option.bind_eq_some_iff] at h
      obtain ⟨o1, h1, h⟩ := h
      refine hb e A o1 h1 g w a I he _ fun ex a1 w1 ⟨g1, E, I1, he1, hex⟩ => ?_
      cases hx : o1.ex with
      | normal =>
        rw [hx] at h hex
        cases ex <;> simp only [ExOk] at hex
        exact ih o1.env o1.st h g1 w1 a1 I1 he1 fun ex a' w' ho => hQ _ _ _ (ho.ext E)
      | exit id =>
        rw [hx] at h hex
        simp only [Option.some.injEq] at h
        subst h
        cases ex <;> simp only [ExOk] at hex
        exact hQ _ _ _ ⟨g1, E, I1, he1, by rw [hx]; exact hex⟩
      | ret =>
        rw [hx] at h hex
        simp only [Option.some.injEq] at h
        subst h
        cases ex <;> simp only [ExOk] at hex
        exact hQ _ _ _ ⟨g1, E, I1, he1, by rw [hx]; trivial⟩
      | pan d =>
        rw [hx] at h hex
        simp only [Option.some.injEq] at h
        subst h
        cases ex <;> simp only [ExOk] at hex
        exact hQ _ _ _ ⟨g1, E, I1, he1, by rw [hx]; exact hex⟩
  exact key k e A h g w a I he hQ

theorem fnOk_run {P : Program} {f : FuncId} {fn : Func} (hf : P.funcs[f]? = some fn) (h : fnOk fn = true) (vs : Array Value) (w : World) : (callFunc f vs).run P w = .ok (.enter f vs) w := by
  simp only [fnOk, Bool.and_eq_true, Bool.not_eq_true', Option.isSome_iff_exists] at h
  obtain ⟨h1, c, h2⟩ := h
  have h1' : ¬ fn.name = "runtime.NumGoroutine" := by simpa using h1
  simp [callFunc, hf, h1', h2]

theorem rangeFunc_sim (X : Cx) (hc : CallOk X.P X.call) (g0 : Operand) (ps : Array Tmp) (x y : Code) : BodyOkF X (.rangeFunc g0 ps x y) (codeD X (.rangeFunc g0 ps x y)) := by
  intro e A o h g w a I he Q hQ
  simp only [codeD] at h
  cases hp : (plainC x && plainC y) with
  | false => rw [hp] at h; simp at h
  | true =>
    rw [hp] at h
    simp only [cond_true, Option.bind_eq_some_iff] at h
    obtain ⟨r, hr, h⟩ := h
    -- the record
    obtain ⟨g1, E1, I1, m1, l1⟩ := I.alloc_obj (.deferred (some [])) .dfb fun g' E => World.alloc_heap_new _ _
    have ht : RepL g w (mask X.n (X.h.live (loopId y)) e).t a.tmps.toList := (he.mask _).t
    obtain ⟨g2, E2, I2, m2, l2⟩ := I1.alloc_obj (.loop { state := .ready, pending := none, fn := X.f, tmps := a.tmps, params := ps, assign := x, body := y, defers := w.heap.size })
      (.loop X.f (mask X.n (X.h.live (loopId y)) e).t (.rangeFunc g0 ps x y) .ready) fun g' E => ⟨_, World.alloc_heap_new _ _, rfl, E.repL (E1.repL ht), ⟨g0, rfl⟩, rfl, rfl⟩
    have hA : g.len = A.length := I.len
    have E := E1.trans E2
    rw [World.size_alloc] at m2
    rw [l1, hA] at m2
    have hlen2 : g2.len = A.length + 2 := by rw [l2, l1, hA]
    have md : g2.m A.length = .obj w.heap.size := by
      have h1 : A.length < g2.len := by omega
      have h2 := E2.bind A.length (by rw [l1, hA]; omega)
      have hsl := I2.slot A.length .dfb (by simp)
      rw [← hA, m1] at h2
      rw [← hA] at hsl ⊢
      cases hm : g2.m g.len <;> rw [hm] at hsl h2 <;> first | exact hsl.elim | skip
      rw [obj_le h2]
    -- the call
    unfold seqCall at hr
    split at hr
    · rename_i q first cap hg
      cases hq : (X.P.funcs[q]?).any fnOk with
      | false => rw [hq] at hr; simp at hr
      | true =>
        rw [hq] at hr
        simp only [cond_true] at hr
        obtain ⟨fn, hfn, hok⟩ : ∃ fn, X.P.funcs[q]? = some fn ∧ fnOk fn = true := by
          cases hfn : X.P.funcs[q]? with
          | none => rw [hfn] at hq; simp at hq
          | some fn => rw [hfn] at hq; exact ⟨fn, rfl, by simpa using hq⟩
        have hv := E.rep (rep_eval he.t g0)
        rw [hg] at hv
        obtain ⟨fs, cs, hv, h1, h2⟩ := repL_fn (d := .any) hv
        have hy : Rep g2 ((w.alloc (.deferred (some []))).alloc (.loop { state := .ready, pending := none, fn := X.f, tmps := a.tmps, params := ps, assign := x, body := y, defers := w.heap.size })) (.yld false (A.length + 1)) (.func (.yield (w.heap.size + 1)) #[] #[]) := by
          simp only [Rep]
          exact ⟨trivial, by omega, _, rfl, by rw [m2]; exact fun h => (by cases h), fun l' hl' => by rw [m2] at hl'; cases hl'; rfl⟩
        have hall : RepL g2 ((w.alloc (.deferred (some []))).alloc (.loop { state := .ready, pending := none, fn := X.f, tmps := a.tmps, params := ps, assign := x, body := y, defers := w.heap.size })) (first ++ [.yld false (A.length + 1)] ++ cap) (fs.toList ++ [.func (.yield (w.heap.size + 1)) #[] #[]] ++ cs.toList) :=
          (h1.append (by simp only [RepL]; exact ⟨_, _, rfl, hy, rfl⟩)).append h2
        have harr : (fs.toList ++ [Value.func (.yield (w.heap.size + 1)) #[] #[]] ++ cs.toList).toArray = fs ++ #[.func (.yield (w.heap.size + 1)) #[] #[]] ++ cs := by
          apply Array.ext'; simp
        have hI2 : Inv g2 (A ++ [.dfb, .loop X.f (mask X.n (X.h.live (loopId y)) e).t (.rangeFunc g0 ps x y) .ready]) ((w.alloc (.deferred (some []))).alloc (.loop { state := .ready, pending := none, fn := X.f, tmps := a.tmps, params := ps, assign := x, body := y, defers := w.heap.size })) := by
          simpa using I2
        have hs := (hc _ _ _ _ hr).1 g2 _ _ hI2 hall
        rw [harr] at hs
        have hrun := fnOk_run hfn hok (fs ++ #[.func (.yield (w.heap.size + 1)) #[] #[]] ++ cs) ((w.alloc (.deferred (some []))).alloc (.loop { state := .ready, pending := none, fn := X.f, tmps := a.tmps, params := ps, assign := x, body := y, defers := w.heap.size }))
        rcases hs with ⟨_, h4⟩ | ⟨v, w', g', d, h3, _⟩
        · refine wpF_rangeFunc (run_enterLoop_outer X.f a.tmps ps x y) (d := { target := .fn (.func q) cs, args := fs ++ #[.func (.yield (w.heap.size + 1)) #[] #[]] }) (w₁' := (w.alloc (.deferred (some []))).alloc (.loop { state := .ready, pending := none, fn := X.f, tmps := a.tmps, params := ps, assign := x, body := y, defers := w.heap.size })) (w₂ := (w.alloc (.deferred (some []))).alloc (.loop { state := .ready, pending := none, fn := X.f, tmps := a.tmps, params := ps, assign := x, body := y, defers := w.heap.size })) (by
            simp [resolve, rangeCall, Deferred.ofValue, hv, show a.eval (.const (.func (.yield (w.heap.size + 1)) #[] #[])) = .func (.yield (w.heap.size + 1)) #[] #[] from rfl]) (by simpa [invoke] using hrun) (h4.mono fun en w3 ⟨g3, E3, I3, hen⟩ => ?_)
          have EE := E.trans E3
          have mk : ∀ (g4 : Gh) (w4 : World), Ext g3 w3 g4 w4 → EnvOk X.n g4 w4 { e with df := (.yld true A.length, []) :: e.df } { a with defers := [{ target := .collected w.heap.size, args := #[] }] ++ a.defers } := by
            intro g4 w4 E4
            have he4 := he.ext (EE.trans E4)
            refine ⟨he4.len, he4.t, ⟨_, _, rfl, ?_, he4.df⟩⟩
            have hb := (E3.trans E4).bind A.length (by omega)
            rw [md] at hb
            refine ⟨Nat.lt_of_lt_of_le (by omega) (E3.trans E4).len, _, rfl, ?_, fun r' hr' => ?_⟩
            · rcases hb with hb | ⟨_, hb⟩ | ⟨_, _, _, _, hb, _⟩
              · rw [hb]; exact fun h => by cases h
              · rw [hb]; exact fun h => by cases h
              · cases hb
            · rw [hr'] at hb
              exact obj_le hb
          obtain ⟨r1, r2⟩ := r
          cases r1 with
          | pan d =>
            simp only [Res.elim, Option.some.injEq] at h
            subst h
            cases en with
            | returned v => exact hen.elim
            | outgrown => exact hen.elim
            | panicked chain =>
              obtain ⟨t, u, rfl, hd⟩ := hen
              exact hQ _ _ _ ⟨g3, EE, I3, mk g3 w3 (Ext.refl _ _), t, u, rfl, hd⟩
          | ret d =>
            simp only [Res.elim] at h
            cases en with
            | panicked chain => exact hen.elim
            | outgrown => exact hen.elim
            | returned v =>
              unfold endRec at h
              split at h
              · rename_i f' t' rf' st hk
                obtain ⟨l, rr, hkl, hm, hheap, _, _, _, hst⟩ := slot_obj I3 hk
                have hl : w.heap.size + 1 = l := by
                  have hb := E3.bind (A.length + 1) (by omega)
                  rw [m2, hm] at hb
                  exact obj_le hb
                subst hl
                have fin : rr.state ≠ .busy → ∀ jump, rr.pending = jump → ∃ jump' w4, (Instr.endLoop (w.heap.size + 1)).run X.P w3 = .ok jump' w4 ∧ jump' = jump ∧ ∃ g4, Ext g3 w3 g4 w4 ∧ Inv g4 (r2.set (A.length + 1) .dead) w4 := by
                  intro hb jump hj
                  obtain ⟨g4, E4, I4⟩ := I3.drop hkl hm (.loop { rr with state := .exhausted })
                  exact ⟨_, _, run_endLoop hheap hb, hj, g4, E4, I4⟩
                split at h
                · cases h
                  obtain ⟨jump, w4, h5, rfl, g4, E4, I4⟩ := fin (by rw [hst.1]; exact fun h => by cases h) _ hst.2
                  exact ⟨_, w4, h5, hQ _ _ _ ⟨g4, EE.trans E4, I4, mk g4 w4 E4, trivial⟩⟩
                · cases h
                  obtain ⟨jump, w4, h5, rfl, g4, E4, I4⟩ := fin (by rw [hst.1]; exact fun h => by cases h) _ hst.2
                  exact ⟨_, w4, h5, wpF_of_wpIn (wpIn_ret (hQ _ _ _ ⟨g4, EE.trans E4, I4, mk g4 w4 E4, trivial⟩))⟩
                · cases h
                  obtain ⟨jump, w4, h5, rfl, g4, E4, I4⟩ := fin (by rw [hst.1]; exact fun h => by cases h) _ hst.2
                  exact ⟨_, w4, h5, wpF_of_wpIn (wpIn_exit (hQ _ _ _ ⟨g4, EE.trans E4, I4, mk g4 w4 E4, rfl⟩))⟩
                · cases h
              · cases h
        · rw [hrun] at h3
          cases h3
    · cases hr

theorem code_simF (X : Cx) (hc : CallOk X.P X.call) (hi : ItOk X.it) (hd : DrawOk X) : ∀ c : Code, BodyOkF X c (codeD X c) := by
  intro c
  induction c with
  | seq x y ihx ihy =>
    intro e A o h g w a I he Q hQ
    simp only [codeD, Option.bind_eq_some_iff] at h
    obtain ⟨o1, h1, h⟩ := h
    refine wpF_seq (ihx e A o1 h1 g w a I he _ fun ex a' w' ⟨g1, E, I1, he1, hex⟩ => ?_)
    unfold Out.seq at h
    cases hx : o1.ex with
    | normal =>
      rw [hx] at h hex
      cases ex <;> simp only [ExOk] at hex
      exact ihy _ _ o h g1 w' a' I1 he1.expand Q fun ex a2 w2 ho => hQ _ _ _ (ho.ext E)
    | exit id =>
      rw [hx] at h hex
      simp only [Option.some.injEq] at h
      subst h
      cases ex <;> simp only [ExOk] at hex
      exact hQ _ _ _ ⟨g1, E, I1, he1, by simpa [ExOk] using hex⟩
    | ret =>
      rw [hx] at h hex
      simp only [Option.some.injEq] at h
      subst h
      cases ex <;> simp only [ExOk] at hex
      exact hQ _ _ _ ⟨g1, E, I1, he1, trivial⟩
    | pan d =>
      rw [hx] at h hex
      simp only [Option.some.injEq] at h
      subst h
      cases ex <;> simp only [ExOk] at hex
      exact hQ _ _ _ ⟨g1, E, I1, he1, hex⟩
  | cond c x y ihx ihy =>
    intro e A o h g w a I he Q hQ
    simp only [codeD, Option.bind_eq_some_iff, Option.map_eq_some_iff] at h
    obtain ⟨t, ht, o1, h, rfl⟩ := h
    have hv := bool?_rep ht (rep_eval he.t c)
    refine wpF_cond hv ?_
    cases t
    · exact ihy e A o1 h g w a I he Q fun ex a' w' ho => hQ ex a' w' ho.atEnd
    · exact ihx e A o1 h g w a I he Q fun ex a' w' ho => hQ ex a' w' ho.atEnd
  | block id c ih =>
    intro e A o h g w a I he Q hQ
    simp only [codeD, Option.map_eq_some_iff] at h
    obtain ⟨o1, h1, rfl⟩ := h
    refine wpF_block (ih e A o1 h1 g w a I he _ fun ex a' w' ⟨g1, E, I1, he1, hex⟩ => ?_)
    unfold Out.block at hQ
    cases hx : o1.ex with
    | normal =>
      rw [hx] at hQ hex
      cases ex <;> simp only [ExOk] at hex
      exact hQ _ _ _ ⟨g1, E, I1, he1, by rw [hx]; trivial⟩
    | exit i =>
      rw [hx] at hQ hex
      cases ex <;> simp only [ExOk] at hex
      rename_i j
      subst hex
      simp only [Exit.inBlock]
      split
      · rename_i e
        exact hQ _ _ _ ⟨g1, E, I1, he1, by simp [e, ExOk]⟩
      · rename_i e
        exact hQ _ _ _ ⟨g1, E, I1, he1, by simp [e, ExOk]⟩
    | ret =>
      rw [hx] at hQ hex
      cases ex <;> simp only [ExOk] at hex
      exact hQ _ _ _ ⟨g1, E, I1, he1, by rw [hx]; trivial⟩
    | pan d =>
      rw [hx] at hQ hex
      cases ex <;> simp only [ExOk] at hex
      exact hQ _ _ _ ⟨g1, E, I1, he1, by rw [hx]; exact hex⟩
  | loop c ih =>
    intro e A o h g w a I he Q hQ
    simp only [codeD] at h
    obtain ⟨k, hk⟩ := hi _ _ _ _ h
    exact loop_okF (step_okF ih _ _) k _ A o hk g w a I (he.mask _) Q hQ
  | rangeFunc f ps x y => exact rangeFunc_sim X hc f ps x y
  | skip => exact (code_sim X hc hi hd none .skip rfl (.inl rfl)).toF
  | label l => exact (code_sim X hc hi hd none (.label l) rfl (.inl rfl)).toF
  | exit id => exact (code_sim X hc hi hd none (.exit id) rfl (.inl rfl)).toF
  | ret => exact (code_sim X hc hi hd none .ret rfl (.inl rfl)).toF
  | region id ops draw => exact (code_sim X hc hi hd none (.region id ops draw) rfl (.inl rfl)).toF
  | scope c => intro e A o h; simp [codeD] at h
  | goto l => intro e A o h; simp [codeD] at h
  | refuse s => intro e A o h; simp [codeD] at h

/-! rounds -/
theorem setParams_sim {g : Gh} {w : World} : ∀ (ps : List Tmp) (ds : List D) (vs : List Value) (t : List D) (tv : Array Value), RepL g w ds vs → RepL g w t tv.toList →
    RepL g w (setParams ps ds t) ((ps.zip vs).foldl (fun tmps (p : Tmp × Value) => tmps.setIfInBounds p.1 p.2) tv).toList
  | [], ds, vs, t, tv, h, ht => by simpa [setParams] using ht
  | p :: ps, [], vs, t, tv, h, ht => by
    simp only [RepL] at h
    subst h
    simpa [setParams] using ht
  | p :: ps, d :: ds, vs, t, tv, h, ht => by
    simp only [RepL] at h
    obtain ⟨v, r, rfl, h1, h2⟩ := h
    simp only [setParams, List.zip_cons_cons, List.foldl_cons]
    exact setParams_sim ps ds r _ _ h2 (by rw [Array.toList_setIfInBounds]; exact ht.set h1 p)
theorem setParams_length : ∀ (ps : List Tmp) (ds t : List D), (setParams ps ds t).length = t.length
  | [], ds, t => by simp [setParams]
  | p :: ps, [], t => by simp [setParams]
  | p :: ps, d :: ds, t => by simp [setParams, setParams_length ps ds]
theorem round_sim (X : Cx) (hc : CallOk X.P X.call) (hi : ItOk X.it) (hd : DrawOk X) {fn : Func} (hf : X.P.funcs[X.f]? = some fn) {k : Nat} {as : List D} {A : St} {r : Res × St} {t : List D} {rf : Code}
    (hk : A[k]? = some (.loop X.f t rf .ready)) (h : roundC X k t rf as A = some r) : RSound X.P k as A r := by
  intro g w vs l I has hml
  obtain ⟨l', rr, hkl, hm, hheap, hfn, ht, ⟨g0, hrf⟩, hst⟩ := slot_obj I hk
  rw [hml] at hm
  cases hm
  subst hrf
  unfold roundC at h
  simp only at h
  cases hg : (plainC rr.assign && plainC rr.body && (as.length == rr.params.size && t.length == X.n)) with
  | false => rw [hg] at h; simp at h
  | true =>
    rw [hg] at h
    simp only [Bool.and_eq_true, beq_iff_eq] at hg
    obtain ⟨⟨hpx, hpy⟩, hlen, htn⟩ := hg
    simp only [cond_true, Option.bind_eq_some_iff] at h
    obtain ⟨o1, ho1, h⟩ := h
    have hsz : vs.toArray.size = rr.params.size := by rw [← hlen, has.length]; simp
    have hy := run_yield (P := X.P) hheap hsz
    rw [hfn] at hy
    refine ⟨_, _, _, _, hy, round_of_wpIn hf ?_⟩
    have he0 : EnvOk X.n g w ⟨setParams rr.params.toList as t, []⟩ { tmps := (rr.params.zip vs.toArray).foldl (fun tmps (t, a) => tmps.setIfInBounds t a) rr.tmps, defers := [] } := by
      refine ⟨by rw [setParams_length]; exact htn, ?_, rfl⟩
      have := setParams_sim rr.params.toList as vs t rr.tmps has ht
      have e : (rr.params.zip vs.toArray).foldl (fun tmps (t, a) => tmps.setIfInBounds t a) rr.tmps = (rr.params.toList.zip vs).foldl (fun tmps (p : Tmp × Value) => tmps.setIfInBounds p.1 p.2) rr.tmps := by
        rw [← Array.foldl_toList]
        simp
      rw [e]
      exact this
    refine code_sim X hc hi hd (some l) rr.assign (plain_noRf _ hpx) (.inr hpx) _ A o1 ho1 g w _ I he0 _ fun ex a1 w1 ⟨g1, E1, I1, he1, hex⟩ => ?_
    cases hx : o1.ex with
    | exit id => rw [hx] at h; cases h
    | ret => rw [hx] at h; cases h
    | pan d => rw [hx] at h; cases h
    | normal =>
      rw [hx] at h hex
      cases ex <;> simp only [ExOk] at hex
      simp only [Option.bind_eq_some_iff] at h
      obtain ⟨A2, hA2, o, ho, h⟩ := h
      unfold recBusy at hA2
      split at hA2
      · rename_i f1 t1 rf1 hk1
        cases hA2
        obtain ⟨l1, r1, hkl1, hm1, hheap1, hfn1, ht1, hrf1, hst1⟩ := slot_obj I1 hk1
        have hl1 : l = l1 := by
          have := E1.bind k hkl
          rw [hml, hm1] at this
          exact obj_le this
        subst hl1
        have hready : r1.state = .ready := hst1.1
        · obtain ⟨E2, I2⟩ := I1.putOwn hkl1 hm1 (.loop { r1 with state := .busy }) (.loop f1 t1 rf1 .busy) fun E => ⟨_, World.putObj_heap_same (Array.getElem?_eq_some_iff.1 hheap1).1, hfn1, E.repL ht1, hrf1, rfl⟩
          refine ⟨_, run_beginRound hheap1 hready, ?_⟩
          refine code_sim X hc hi hd (some l) rr.body (plain_noRf _ hpy) (.inr hpy) _ _ o ho g1 _ _ I2 (he1.ext E2).expand _ fun ex a2 w2 ⟨g3, E3, I3, he3, hex3⟩ => ?_
          have E13 := (E1.trans E2).trans E3
          have fin : ∀ (st : RSt) (jump : Option Code) (b : Bool), recSet k st o.st = (recSet k st o.st) → b = jump.isNone → (∀ r : Loop, StOk st { r with state := if jump.isNone then .ready else .done, pending := jump }) →
              (recSet k st o.st).map (fun A' => ((.ret (.bool b) : Res), closeSt A A')) = some r →
              ∃ v w3, (Instr.endRound l jump).run X.P w2 = .ok v w3 ∧ ∃ g', Ext g w g' w3 ∧ Inv g' r.2 w3 ∧ EndOk g' w3 r.1 (.returned v) := by
            intro st jump b _ hb hst' hr
            simp only [Option.map_eq_some_iff] at hr
            obtain ⟨A3, hA3, rfl⟩ := hr
            unfold recSet at hA3
            split at hA3
            · rename_i f2 t2 rf2 st2 hk2
              cases hA3
              obtain ⟨l2, r2, hkl2, hm2, hheap2, hfn2, ht2, hrf2, hst2⟩ := slot_obj I3 hk2
              have hl2 : l = l2 := by
                have := E13.bind k hkl
                rw [hml, hm2] at this
                exact obj_le this
              subst hl2
              obtain ⟨E4, I4⟩ := I3.putOwn hkl2 hm2 (.loop { r2 with state := if jump.isNone then .ready else .done, pending := jump }) (.loop f2 t2 rf2 st) fun E => ⟨_, World.putObj_heap_same (Array.getElem?_eq_some_iff.1 hheap2).1, hfn2, E.repL ht2, hrf2, hst' r2⟩
              obtain ⟨E5, I5, _⟩ := I.closeSt (E13.trans E4) I4
              exact ⟨_, _, run_endRound jump hheap2, _, E5, I5, by simp only [EndOk, Rep]; rw [hb]⟩
            · cases hA3
          unfold roundEnd at h
          cases hx3 : o.ex with
          | normal =>
            rw [hx3] at h hex3
            cases ex <;> simp only [ExOk] at hex3
            exact fin .ready none true rfl rfl (fun r => ⟨rfl, rfl⟩) h
          | ret =>
            rw [hx3] at h hex3
            cases ex <;> simp only [ExOk] at hex3
            exact fin .ret (some .ret) false rfl rfl (fun r => ⟨rfl, rfl⟩) h
          | exit id =>
            rw [hx3] at h hex3
            cases ex <;> simp only [ExOk] at hex3
            subst hex3
            exact fin (.exit id) (some (.exit id)) false rfl rfl (fun r => ⟨rfl, rfl⟩) h
          | pan d =>
            rw [hx3] at h hex3
            cases ex <;> simp only [ExOk] at hex3
            obtain ⟨t, u, rfl, hdr⟩ := hex3
            cases hde : o.env.df.isEmpty with
            | false => rw [hde] at h; simp at h
            | true =>
              rw [hde] at h
              simp only [cond_true, Option.some.injEq] at h
              subst h
              have hdf := he3.df
              have h0 : o.env.df = [] := by simpa using hde
              rw [h0] at hdf
              obtain ⟨E5, I5, K⟩ := I.closeSt E13 I3
              refine ⟨hdf, _, E5, I5, t, u, rfl, ?_⟩
              have := Rep.keep K _ _ hdr
              rw [← I.len]
              exact this
      · cases hA2
end Go.Vm
