/- VmLim, VmDec, VmK in one text. -/
import Derived.Test.YtikjlgcbcljehaaGreatDoorVmDraw3
import Derived.Test.YtikjlgcbcljehaaGreatDoorVmAbs
set_option linter.all false
/- The run without a bound on its rounds, and its equation. -/
namespace Go.Vm
open Go.RowKit
set_option linter.unusedVariables false

/-- F tells ever more, and x all that it ever tells -/
structure LimOf {α : Type} (F : Nat → Option α) (x : Option α) : Prop where
  mono : ∀ j r, F j = some r → F (j + 1) = some r
  lim : ∀ r, x = some r ↔ ∃ j, F j = some r
theorem LimOf.le {α : Type} {F : Nat → Option α} {x : Option α} (h : LimOf F x) {j : Nat} {r : α} (hj : F j = some r) : ∀ i, j ≤ i → F i = some r := by
  intro i hi
  induction i with
  | zero => have : j = 0 := by omega
            subst this; exact hj
  | succ i ih =>
    by_cases e : j = i + 1
    · subst e; exact hj
    · exact h.mono i r (ih (by omega))
theorem LimOf.const {α : Type} (x : Option α) : LimOf (fun _ => x) x := ⟨fun _ _ h => h, fun r => ⟨fun h => ⟨0, h⟩, fun ⟨_, h⟩ => h⟩⟩
theorem LimOf.of_eq {α : Type} {F : Nat → Option α} {x : Option α} (h : ∀ j, F j = x) : LimOf F x := by
  have : F = fun _ => x := funext h
  rw [this]; exact LimOf.const x
theorem LimOf.bind {α β : Type} {F : Nat → Option α} {x : Option α} {G : Nat → α → Option β} {g : α → Option β} (h : LimOf F x) (k : ∀ a, LimOf (fun j => G j a) (g a)) :
    LimOf (fun j => (F j).bind (G j)) (x.bind g) := by
  refine ⟨fun j r hr => ?_, fun r => ⟨fun hr => ?_, fun ⟨j, hr⟩ => ?_⟩⟩
  · simp only [Option.bind_eq_some_iff] at hr ⊢
    obtain ⟨a, h1, h2⟩ := hr
    exact ⟨a, h.mono j a h1, (k a).mono j r h2⟩
  · simp only [Option.bind_eq_some_iff] at hr ⊢
    obtain ⟨a, h1, h2⟩ := hr
    obtain ⟨j1, q1⟩ := (h.lim a).1 h1
    obtain ⟨j2, q2⟩ := ((k a).lim r).1 h2
    exact ⟨max j1 j2, a, h.le q1 _ (by omega), (k a).le q2 _ (by omega)⟩
  · simp only [Option.bind_eq_some_iff] at hr ⊢
    obtain ⟨a, h1, h2⟩ := hr
    exact ⟨a, (h.lim a).2 ⟨j, h1⟩, ((k a).lim r).2 ⟨j, h2⟩⟩
theorem LimOf.map {α β : Type} {F : Nat → Option α} {x : Option α} (h : LimOf F x) (f : α → β) : LimOf (fun j => (F j).map f) (x.map f) := by
  have := h.bind (G := fun _ a => some (f a)) (g := fun a => some (f a)) fun a => LimOf.const _
  have e : ∀ y : Option α, y.map f = y.bind fun a => some (f a) := by intro y; cases y <;> rfl
  simpa only [e] using this
theorem LimOf.cond {α : Type} {F G : Nat → Option α} {x y : Option α} (b : Bool) (h : LimOf F x) (k : LimOf G y) : LimOf (fun j => cond b (F j) (G j)) (cond b x y) := by
  cases b
  · exact k
  · exact h
theorem LimOf.unique {α : Type} {F : Nat → Option α} {x y : Option α} (h : LimOf F x) (k : LimOf F y) : x = y := by
  cases hx : x with
  | some r => exact (((k.lim r).2 ((h.lim r).1 hx))).symm
  | none =>
    cases hy : y with
    | none => rfl
    | some r => rw [(h.lim r).2 ((k.lim r).1 hy)] at hx; cases hx
open Classical in
noncomputable def limO {α : Type} (F : Nat → Option α) : Option α := if h : ∃ j r, F j = some r then F (Classical.choose h) else none
theorem LimOf.of_mono {α : Type} {F : Nat → Option α} (h : ∀ j r, F j = some r → F (j + 1) = some r) : LimOf F (limO F) := by
  have le : ∀ {j r}, F j = some r → ∀ i, j ≤ i → F i = some r := by
    intro j r hj i hi
    induction i with
    | zero => have : j = 0 := by omega
              subst this; exact hj
    | succ i ih =>
      by_cases e : j = i + 1
      · subst e; exact hj
      · exact h i r (ih (by omega))
  refine ⟨h, fun r => ⟨fun hr => ?_, fun ⟨j, hj⟩ => ?_⟩⟩
  · unfold limO at hr
    split at hr
    · exact ⟨_, hr⟩
    · cases hr
  · unfold limO
    have hex : ∃ j r, F j = some r := ⟨j, r, hj⟩
    rw [dif_pos hex]
    obtain ⟨r', hr'⟩ := Classical.choose_spec hex
    rw [hr']
    have h1 := le hr' (max (Classical.choose hex) j) (by omega)
    have h2 := le hj (max (Classical.choose hex) j) (by omega)
    rw [h1] at h2
    exact h2

/-! rounds -/
theorem iterN_le {s s' : Env → St → Option Out} (h : ∀ e A r, s e A = some r → s' e A = some r) : ∀ {n m : Nat}, n ≤ m → ∀ {e A r}, iterN n s e A = some r → iterN m s' e A = some r
  | 0, m, _, e, A, r, hr => by simp [iterN] at hr
  | n + 1, 0, hm, e, A, r, hr => by omega
  | n + 1, m + 1, hm, e, A, r, hr => by
    simp only [iterN, Option.bind_eq_some_iff] at hr ⊢
    obtain ⟨o, h1, h2⟩ := hr
    refine ⟨o, h _ _ _ h1, ?_⟩
    cases hx : o.ex <;> rw [hx] at h2 <;> first | exact h2 | exact iterN_le h (by omega) h2
theorem iterN_up {s : Nat → Env → St → Option Out} {sL : Env → St → Option Out} (hs : ∀ e A, LimOf (fun j => s j e A) (sL e A)) : ∀ {n : Nat} {e A r}, iterN n sL e A = some r → ∃ j, iterN n (s j) e A = some r
  | 0, e, A, r, hr => by simp [iterN] at hr
  | n + 1, e, A, r, hr => by
    simp only [iterN, Option.bind_eq_some_iff] at hr
    obtain ⟨o, h1, h2⟩ := hr
    obtain ⟨j1, q1⟩ := ((hs e A).lim o).1 h1
    cases hx : o.ex with
    | normal =>
      rw [hx] at h2
      obtain ⟨j2, q2⟩ := iterN_up hs h2
      refine ⟨max j1 j2, ?_⟩
      simp only [iterN, Option.bind_eq_some_iff]
      refine ⟨o, (hs e A).le q1 _ (by omega), ?_⟩
      rw [hx]
      exact iterN_le (fun e A r h => (hs e A).le h _ (by omega)) (Nat.le_refl _) q2
    | exit i => rw [hx] at h2; exact ⟨j1, by simp only [iterN, Option.bind_eq_some_iff]; exact ⟨o, q1, by rw [hx]; exact h2⟩⟩
    | ret => rw [hx] at h2; exact ⟨j1, by simp only [iterN, Option.bind_eq_some_iff]; exact ⟨o, q1, by rw [hx]; exact h2⟩⟩
    | pan d => rw [hx] at h2; exact ⟨j1, by simp only [iterN, Option.bind_eq_some_iff]; exact ⟨o, q1, by rw [hx]; exact h2⟩⟩
noncomputable def iterL (step : Env → St → Option Out) (e : Env) (A : St) : Option Out := limO fun k => iterN k step e A
theorem iterL_lim (step : Env → St → Option Out) (e : Env) (A : St) : LimOf (fun k => iterN k step e A) (iterL step e A) :=
  LimOf.of_mono fun j r h => iterN_le (fun _ _ _ h => h) (Nat.le_succ _) h
/-- iterators that go on -/
def ItLim (it : Nat → (Env → St → Option Out) → Env → St → Option Out) (itL : (Env → St → Option Out) → Env → St → Option Out) : Prop :=
  ∀ (s : Nat → Env → St → Option Out) (sL : Env → St → Option Out), (∀ e A, LimOf (fun j => s j e A) (sL e A)) → ∀ e A, LimOf (fun j => it j (s j) e A) (itL sL e A)
theorem itLim_iter (n : Nat → Nat) (hn : ∀ j, n j ≤ n (j + 1)) {itL : (Env → St → Option Out) → Env → St → Option Out} (hL : ∀ s e A r, itL s e A = some r ↔ ∃ j, iterN (n j) s e A = some r) :
    ItLim (fun j => iterN (n j)) itL := by
  intro s sL hs e A
  refine ⟨fun j r h => iterN_le (fun e A r h => (hs e A).mono j r h) (hn j) h, fun r => ?_⟩
  rw [hL]
  constructor
  · rintro ⟨j, hj⟩
    obtain ⟨j', hj'⟩ := iterN_up hs hj
    have hmono : ∀ i, j ≤ i → n j ≤ n i := by
      intro i hi
      induction i with
      | zero => have : j = 0 := by omega
                subst this; exact Nat.le_refl _
      | succ i ih =>
        by_cases e : j = i + 1
        · subst e; exact Nat.le_refl _
        · exact Nat.le_trans (ih (by omega)) (hn i)
    exact ⟨max j j', iterN_le (fun e A r h => (hs e A).le h _ (by omega)) (hmono _ (by omega)) hj'⟩
  · rintro ⟨j, hj⟩
    exact ⟨j, iterN_le (fun e A r h => ((hs e A).lim r).2 ⟨j, h⟩) (Nat.le_refl _) hj⟩

section
variable {P : Program} {h : Hints} {n : Nat} {fi : FuncId} {call : Nat → FuncId → List D → St → ORes} {callL : FuncId → List D → St → ORes}
  {it : Nat → (Env → St → Option Out) → Env → St → Option Out} {itL : (Env → St → Option Out) → Env → St → Option Out}
  (hc : ∀ f ds A, LimOf (fun j => call j f ds A) (callL f ds A)) (hi : ItLim it itL)
include hc
theorem apply_lim (f : D) (args : List D) (A : St) : LimOf (fun j => applyD (call j) f args A) (applyD callL f args A) := by
  unfold applyD
  split
  · exact hc _ _ _
  · split
    · exact hc _ _ _
    · exact LimOf.const _
  · exact LimOf.const _
theorem callD_lim (e : List D) (op : Op) (A : St) : LimOf (fun j => callD (call j) e op A) (callD callL e op A) := by
  unfold callD
  split
  · exact apply_lim hc _ _ _
  · exact LimOf.const _
  · exact LimOf.const _
  · exact LimOf.const _
theorem ops_lim (ops : Array Oper) : ∀ (os : List Oper) (e : Env) (A : St), LimOf (fun j => opsD ⟨P, h, call j, it j, n, fi⟩ ops os e A) (opsD ⟨P, h, callL, itL, n, fi⟩ ops os e A)
  | [], e, A => LimOf.const _
  | o :: os, e, A => by
    simp only [opsD]
    refine (LimOf.const _).bind fun w => ?_
    split
    · exact (LimOf.const _).bind fun d => ops_lim ops os _ _
    · exact (LimOf.const _).bind fun d => ops_lim ops os _ _
    · refine (LimOf.cond w (callD_lim hc _ _ _) (LimOf.const _)).bind fun r => ?_
      cases r.1 with
      | ret d => exact ops_lim ops os _ _
      | pan d => exact LimOf.const _
    · exact LimOf.cond w ((LimOf.const _).bind fun d => ops_lim ops os _ _) (LimOf.const _)
    · exact LimOf.const _
theorem trace_lim (ops : Array Oper) : ∀ (os : List Oper) (k : Nat) (e : List D) (A : St), LimOf (fun j => traceD ⟨P, h, call j, it j, n, fi⟩ ops os k e A) (traceD ⟨P, h, callL, itL, n, fi⟩ ops os k e A)
  | [], k, e, A => LimOf.const _
  | o :: os, k, e, A => by
    simp only [traceD, show ∀ j, drK (⟨P, h, call j, it j, n, fi⟩ : Cx) o.op = drK ⟨P, h, callL, itL, n, fi⟩ o.op from fun _ => rfl]
    refine (LimOf.const _).bind fun w => ?_
    split
    · exact (LimOf.const _).bind fun d => (trace_lim ops os _ _ _).map _
    · exact (LimOf.const _).bind fun d => (trace_lim ops os _ _ _).map _
    · exact (LimOf.const _).bind fun d => (trace_lim ops os _ _ _).map _
    · split
      · refine (LimOf.cond w (callD_lim hc _ _ _) (LimOf.const _)).bind fun r => ?_
        cases r.1 with
        | ret d => exact (trace_lim ops os _ _ _).map _
        | pan d => exact LimOf.const _
      · exact (LimOf.const _).bind fun d => (trace_lim ops os _ _ _).map _
    · exact LimOf.const _
omit hc in
theorem head_lim (j : Nat) : ∀ os : List Oper, headD (⟨P, h, call j, it j, n, fi⟩ : Cx) os = headD ⟨P, h, callL, itL, n, fi⟩ os
  | [] => rfl
  | o :: os => by
    simp only [headD, head_lim j os, show drK (⟨P, h, call j, it j, n, fi⟩ : Cx) o.op = drK ⟨P, h, callL, itL, n, fi⟩ o.op from rfl]
theorem draw_lim (ops : Array Oper) (e : Env) (A : St) : LimOf (fun j => drawD ⟨P, h, call j, it j, n, fi⟩ ops e A) (drawD ⟨P, h, callL, itL, n, fi⟩ ops e A) := by
  unfold drawD
  simp only [head_lim (h := h) (callL := callL) (itL := itL)]
  exact (LimOf.const _).bind fun H => (trace_lim hc ops _ _ _ _).bind fun r => LimOf.of_eq fun j => rfl
include hi
theorem code_lim : ∀ (c : Code) (e : Env) (A : St), LimOf (fun j => codeD ⟨P, h, call j, it j, n, fi⟩ c e A) (codeD ⟨P, h, callL, itL, n, fi⟩ c e A) := by
  intro c
  induction c with
  | region id ops draw =>
    intro e A
    simp only [codeD]
    exact LimOf.cond draw (draw_lim hc ops e A) (ops_lim hc ops _ e A)
  | seq x y ihx ihy =>
    intro e A
    simp only [codeD]
    refine (ihx e A).bind fun o => ?_
    unfold Out.seq
    split
    · exact ihy _ _
    · exact LimOf.const _
  | cond c x y ihx ihy =>
    intro e A
    simp only [codeD]
    exact (LimOf.const _).bind fun t => (LimOf.cond t (ihx e A) (ihy e A)).map _
  | block id c ih =>
    intro e A
    simp only [codeD]
    exact (ih e A).map _
  | loop c ih =>
    intro e A
    simp only [codeD]
    refine hi _ _ (fun e A => ?_) _ _
    unfold stepD
    exact (ih _ A).bind fun o => LimOf.const _
  | skip => intro e A; exact LimOf.const _
  | label l => intro e A; exact LimOf.const _
  | exit id => intro e A; exact LimOf.const _
  | ret => intro e A; exact LimOf.const _
  | rangeFunc f ps x y =>
    intro e A
    simp only [codeD]
    refine LimOf.cond _ (LimOf.bind ?_ fun r => LimOf.const _) (LimOf.const _)
    unfold seqCall
    split
    · exact LimOf.cond _ (hc _ _ _) (LimOf.const _)
    · exact LimOf.const _
  | scope c => intro e A; exact LimOf.const _
  | goto l => intro e A; exact LimOf.const _
  | refuse s => intro e A; exact LimOf.const _
theorem opsS_lim (ops : Array Oper) : ∀ (os : List Oper) (e : Env) (ps : PS) (A : St), LimOf (fun j => opsSD ⟨P, h, call j, it j, n, fi⟩ ops os e ps A) (opsSD ⟨P, h, callL, itL, n, fi⟩ ops os e ps A)
  | [], e, ps, A => LimOf.const _
  | o :: os, e, ps, A => by
    simp only [opsSD]
    refine LimOf.cond _ (LimOf.cond _ (opsS_lim ops os _ _ _) (LimOf.const _)) ((LimOf.cond _ (LimOf.const _) (ops_lim hc ops _ e A)).bind fun r => ?_)
    split
    · exact opsS_lim ops os _ _ _
    · exact LimOf.const _
theorem codeS_lim : ∀ (c : Code) (e : Env) (ps : PS) (A : St), LimOf (fun j => codeSD ⟨P, h, call j, it j, n, fi⟩ c e ps A) (codeSD ⟨P, h, callL, itL, n, fi⟩ c e ps A) := by
  intro c
  induction c with
  | seq x y ihx ihy =>
    intro e ps A
    simp only [codeSD]
    refine (ihx e ps A).bind fun o => ?_
    unfold SOut.seq
    split
    · exact ihy _ _ _
    · exact LimOf.const _
  | cond c x y ihx ihy =>
    intro e ps A
    simp only [codeSD]
    exact (LimOf.const _).bind fun t => LimOf.cond t (ihx e ps A) (ihy e ps A)
  | region id ops draw =>
    intro e ps A
    simp only [codeSD]
    exact LimOf.cond _ (LimOf.cond draw (LimOf.const _) (opsS_lim hc hi ops _ e ps A)) ((code_lim hc hi _ e A).map _)
  | skip => intro e ps A; exact (LimOf.cond _ (code_lim hc hi .skip e A) (LimOf.const _)).map _
  | label l => intro e ps A; exact (LimOf.cond _ (code_lim hc hi (.label l) e A) (LimOf.const _)).map _
  | exit id => intro e ps A; exact (LimOf.cond _ (code_lim hc hi (.exit id) e A) (LimOf.const _)).map _
  | ret => intro e ps A; exact (LimOf.cond _ (code_lim hc hi .ret e A) (LimOf.const _)).map _
  | block id c ih => intro e ps A; exact (LimOf.cond _ (code_lim hc hi (.block id c) e A) (LimOf.const _)).map _
  | loop c ih => intro e ps A; exact (LimOf.cond _ (code_lim hc hi (.loop c) e A) (LimOf.const _)).map _
  | rangeFunc f ps' x y => intro e ps A; exact (LimOf.cond _ (code_lim hc hi (.rangeFunc f ps' x y) e A) (LimOf.const _)).map _
  | scope c => intro e ps A; exact (LimOf.cond _ (code_lim hc hi (.scope c) e A) (LimOf.const _)).map _
  | goto l => intro e ps A; exact (LimOf.cond _ (code_lim hc hi (.goto l) e A) (LimOf.const _)).map _
  | refuse s => intro e ps A; exact (LimOf.cond _ (code_lim hc hi (.refuse s) e A) (LimOf.const _)).map _
theorem def_lim (fn : Func) (args : List D) (p : Option D) (A : St) : LimOf (fun j => defD ⟨P, h, call j, it j, n, fi⟩ fn args p A) (defD ⟨P, h, callL, itL, n, fi⟩ fn args p A) := by
  unfold defD
  dsimp only
  exact LimOf.cond _ ((LimOf.const _).bind fun c => (codeS_lim hc hi c _ _ _).bind fun o => LimOf.const _) (LimOf.const _)
omit hc hi in
theorem leaves_lim {dcall : Nat → D → List D → Option D → St → Option (Option D × St)} {dcallL : D → List D → Option D → St → Option (Option D × St)}
    (hd : ∀ f args p A, LimOf (fun j => dcall j f args p A) (dcallL f args p A)) (res : St → Option D) : ∀ (dfs : List (D × List D)) (p : Option D) (A : St),
    LimOf (fun j => leavesD (dcall j) res dfs p A) (leavesD dcallL res dfs p A)
  | [], none, A => LimOf.const _
  | [], some p, A => LimOf.const _
  | (f, args) :: r, p, A => by
    simp only [leavesD]
    split
    · split
      · exact leaves_lim hd res r _ _
      · exact LimOf.const _
    · exact (hd _ args p A).bind fun x => leaves_lim hd res r _ _
theorem fun_lim {dcall : Nat → D → List D → Option D → St → Option (Option D × St)} {dcallL : D → List D → Option D → St → Option (Option D × St)}
    (hd : ∀ f args p A, LimOf (fun j => dcall j f args p A) (dcallL f args p A)) (fn : Func) (args : List D) (A : St) :
    LimOf (fun j => funD ⟨P, h, call j, it j, n, fi⟩ (dcall j) fn args A) (funD ⟨P, h, callL, itL, n, fi⟩ dcallL fn args A) := by
  unfold funD
  dsimp only
  refine LimOf.cond _ ((LimOf.const _).bind fun c => (code_lim hc hi c _ _).bind fun o => ?_) (LimOf.const _)
  refine LimOf.bind ?_ fun r => LimOf.const _
  unfold Out.leave
  split
  · exact leaves_lim hd _ _ _ _
  · exact leaves_lim hd _ _ _ _
  · exact leaves_lim hd _ _ _ _
  · exact LimOf.const _
theorem round_lim (k : Nat) (t : List D) (rf : Code) (args : List D) (A : St) : LimOf (fun j => roundC ⟨P, h, call j, it j, n, fi⟩ k t rf args A) (roundC ⟨P, h, callL, itL, n, fi⟩ k t rf args A) := by
  unfold roundC
  split
  · rename_i g0 ps x y
    dsimp only
    refine LimOf.cond _ (LimOf.bind (code_lim hc hi x _ A) fun o1 => ?_) (LimOf.const _)
    split
    · exact (LimOf.const _).bind fun A2 => LimOf.bind (code_lim hc hi y _ _) fun o => LimOf.const _
    · exact LimOf.const _
  · exact LimOf.const _
theorem body_lim (H : Ext0) (f : FuncId) (args : List D) (A : St) : LimOf (fun j => bodyD P H (call j) (it j) f args A) (bodyD P H callL itL f args A) := by
  unfold bodyD
  refine LimOf.cond _ ?_ ?_
  · unfold roundD
    split
    · split
      · exact (LimOf.const _).bind fun fn => round_lim hc hi _ _ _ _ _
      · exact LimOf.const _
    · exact LimOf.const _
  split
  · exact LimOf.const _
  · refine (LimOf.const _).bind fun fn => LimOf.cond _ ?_ (LimOf.const _)
    refine fun_lim hc hi (dcall := fun j => dcallD P H (call j) (it j)) (fun f' args' p A' => ?_) fn args A
    unfold dcallD
    split
    · exact (LimOf.const _).bind fun fn' => LimOf.cond _ (def_lim hc hi fn' _ _ _) (LimOf.const _)
    · exact LimOf.const _
end

theorem runN_mono (P : Program) (H : Ext0) : ∀ k f args A r, runN P H k f args A = some r → runN P H (k + 1) f args A = some r := by
  intro k
  induction k with
  | zero => intro f args A r h; simp [runN] at h
  | succ k ih =>
    intro f args A r h
    -- two steps as a sequence
    have hc : ∀ f ds A, LimOf (fun j => runN P H (if j = 0 then k else k + 1) f ds A) (runN P H (k + 1) f ds A) := by
      intro f ds A
      refine ⟨fun j r h => ?_, fun r => ⟨fun h => ⟨1, by simpa using h⟩, fun ⟨j, h⟩ => ?_⟩⟩
      · by_cases e : j = 0
        · subst e; simp at h ⊢; exact ih _ _ _ _ h
        · simpa [e] using h
      · by_cases e : j = 0
        · subst e; simp at h; exact ih _ _ _ _ h
        · simpa [e] using h
    have hi : ItLim (fun j => iterN (if j = 0 then k else k + 1)) (iterN (k + 1)) := by
      refine itLim_iter _ (fun j => ?_) fun s e A r => ⟨fun h => ⟨1, by simpa using h⟩, fun ⟨j, h⟩ => ?_⟩
      · by_cases e : j = 0
        · simp [e]
        · simp [e]
      · by_cases e : j = 0
        · subst e; simp at h; exact iterN_le (fun _ _ _ h => h) (Nat.le_succ _) h
        · simpa [e] using h
    have hb := body_lim (P := P) hc hi H f args A
    have h0 : bodyD P H (runN P H k) (iterN k) f args A = some r := h
    have := hb.mono 0 r (by simpa using h0)
    simpa [runN] using this
/-- what a function's call comes to -/
noncomputable def Run (P : Program) (H : Ext0) (f : FuncId) (args : List D) (A : St) : ORes := limO fun k => runN P H k f args A
theorem Run_lim (P : Program) (H : Ext0) (f : FuncId) (args : List D) (A : St) : LimOf (fun k => runN P H k f args A) (Run P H f args A) :=
  LimOf.of_mono fun k r h => runN_mono P H k f args A r h
/-- THE EQUATION -/
theorem Run_eq (P : Program) (H : Ext0) (f : FuncId) (args : List D) (A : St) : Run P H f args A = bodyD P H (Run P H) iterL f args A := by
  have h1 : LimOf (fun k => runN P H (k + 1) f args A) (Run P H f args A) := by
    refine ⟨fun j r h => (Run_lim P H f args A).mono _ r h, fun r => ?_⟩
    rw [(Run_lim P H f args A).lim r]
    exact ⟨fun ⟨j, h⟩ => ⟨j, (Run_lim P H f args A).mono j r h⟩, fun ⟨j, h⟩ => ⟨j + 1, h⟩⟩
  refine h1.unique ?_
  simp only [runN]
  exact body_lim (fun f ds A => Run_lim P H f ds A) (itLim_iter (fun j => j) (fun j => Nat.le_succ j) fun s e A r => (iterL_lim s e A).lim r) H f args A
theorem Run_sound (P : Program) (H : Ext0) (hx : ExtOk P H) : CallOk P (Run P H) := by
  intro f ds A r h
  obtain ⟨k, hk⟩ := ((Run_lim P H f ds A).lim r).1 h
  exact run_sim P H hx (fun X hX hc => draw_sim X (hX ▸ hc)) k f ds A r hk
end Go.Vm

/- Whether data are closed at a bound, and whether two are the same, reckoned. -/
namespace Go.Vm
set_option linter.unusedVariables false
/-! what is looked up classically, or reckoned -/
mutual
/-- are a datum's slots all below n? -/
def D.shutB (n : Nat) : D → Bool
  | .agg cs => D.shutLB n cs
  | .tup ds => D.shutLB n ds
  | .sl o es ds => (match o with | .own c _ => decide (c < n) | _ => true) && D.shutLB n ds
  | .vsl k _ _ _ => decide (k < n)
  | .ref k _ => decide (k < n)
  | .peek cs => D.shutLB n cs
  | .fn _ a b => D.shutLB n a && D.shutLB n b
  | .iface _ d => d.shutB n
  | .yld _ k => decide (k < n)
  | _ => true
def D.shutLB (n : Nat) : List D → Bool
  | [] => true
  | d :: r => d.shutB n && D.shutLB n r
end
mutual
theorem D.shutB_eq (n : Nat) : ∀ d : D, d.shutB n = true → d.shut n = d
  | .agg cs, h => by simp only [D.shutB] at h; simp only [D.shut, D.shutLB_eq n cs h]
  | .tup ds, h => by simp only [D.shutB] at h; simp only [D.shut, D.shutLB_eq n ds h]
  | .sl o es ds, h => by
    simp only [D.shutB, Bool.and_eq_true] at h
    simp only [D.shut, D.shutLB_eq n ds h.2]
    cases o with
    | own c s => simp only [decide_eq_true_eq] at h; simp [Own.shut, h.1]
    | sh => rfl
    | full => rfl
  | .vsl k _ _ _, h => by simp only [D.shutB, decide_eq_true_eq] at h; simp [D.shut, h]
  | .ref k _, h => by simp only [D.shutB, decide_eq_true_eq] at h; simp [D.shut, h]
  | .peek cs, h => by simp only [D.shutB] at h; simp only [D.shut, D.shutLB_eq n cs h]
  | .fn _ a b, h => by simp only [D.shutB, Bool.and_eq_true] at h; simp only [D.shut, D.shutLB_eq n a h.1, D.shutLB_eq n b h.2]
  | .iface _ d, h => by simp only [D.shutB] at h; simp only [D.shut, D.shutB_eq n d h]
  | .yld _ k, h => by simp only [D.shutB, decide_eq_true_eq] at h; simp [D.shut, h]
  | .any, _ => by simp [D.shut]
  | .bool _, _ => by simp [D.shut]
  | .int _ _, _ => by simp [D.shut]
  | .str _, _ => by simp [D.shut]
  | .val _, _ => by simp [D.shut]
theorem D.shutLB_eq (n : Nat) : ∀ ds : List D, D.shutLB n ds = true → D.shutL n ds = ds
  | [], _ => by simp [D.shutL]
  | d :: r, h => by
    simp only [D.shutLB, Bool.and_eq_true] at h
    simp only [D.shutL, D.shutB_eq n d h.1, D.shutLB_eq n r h.2]
end
def Slot.shutB (n : Nat) : Slot → Bool
  | .cells cs => D.shutLB n cs
  | .loop _ t _ _ => D.shutLB n t
  | _ => true
theorem Slot.shutB_eq (n : Nat) (s : Slot) (h : s.shutB n = true) : s.shut n = s := by
  cases s with
  | cells cs => simp only [Slot.shutB] at h; simp only [Slot.shut, D.shutLB_eq n _ h]
  | loop f t rf st => simp only [Slot.shutB] at h; simp only [Slot.shut, D.shutLB_eq n _ h]
  | _ => rfl
def shutAllB (n : Nat) : Nat → St → Bool
  | 0, _ => true
  | _ + 1, [] => false
  | k + 1, s :: r => s.shutB n && shutAllB n k r
theorem shutAllB_eq (n : Nat) : ∀ (k : Nat) (A : St), shutAllB n k A = true → ∀ i, i < k → ∃ s, A[i]? = some s ∧ s.shut n = s
  | 0, _, _, i, hi => by omega
  | k + 1, [], h, i, hi => by simp [shutAllB] at h
  | k + 1, s :: r, h, i, hi => by
    simp only [shutAllB, Bool.and_eq_true] at h
    cases i with
    | zero => exact ⟨s, rfl, Slot.shutB_eq n s h.1⟩
    | succ i => simpa using shutAllB_eq n k r h.2 i (by omega)
def keptB (A A' : St) : Bool := shutAllB A.length A.length A'
theorem keptB_eq {A A' : St} (h : keptB A A' = true) : Kept A A' := by
  refine ⟨?_, fun k hk => .inr (shutAllB_eq _ _ _ h k hk)⟩
  cases hA : A.length with
  | zero => exact Nat.zero_le _
  | succ n =>
    obtain ⟨s, hs, _⟩ := shutAllB_eq _ _ _ h n (by omega)
    exact (List.getElem?_eq_some_iff.1 hs).1
mutual
def D.eqb : D → D → Bool
  | .any, .any => true
  | .bool a, .bool b => a == b
  | .int k a, .int k' b => decide (k = k') && a == b
  | .str a, .str b => a == b
  | .agg a, .agg b => D.eqbL a b
  | .tup a, .tup b => D.eqbL a b
  | .sl o es ds, .sl o' es' ds' => decide (o = o') && es == es' && D.eqbL ds ds'
  | .vsl k a b c, .vsl k' a' b' c' => k == k' && a == a' && b == b' && c == c'
  | .ref k a, .ref k' a' => k == k' && a == a'
  | .peek a, .peek b => D.eqbL a b
  | .iface t a, .iface t' b => t == t' && D.eqb a b
  | .yld m k, .yld m' k' => m == m' && k == k'
  | .val (.pointer none), .val (.pointer none) => true
  | .val .nilIface, .val .nilIface => true
  | .val .nilFunc, .val .nilFunc => true
  | .fn (.func f) a b, .fn (.func f') a' b' => f == f' && D.eqbL a a' && D.eqbL b b'
  | _, _ => false
def D.eqbL : List D → List D → Bool
  | [], [] => true
  | a :: r, b :: s => D.eqb a b && D.eqbL r s
  | _, _ => false
end
mutual
theorem D.eqb_eq : ∀ (x y : D), D.eqb x y = true → x = y
  | .any, y, h => by cases y <;> simp_all [D.eqb]
  | .bool a, y, h => by cases y <;> simp_all [D.eqb]
  | .int k a, y, h => by cases y <;> simp_all [D.eqb]
  | .str a, y, h => by cases y <;> simp_all [D.eqb]
  | .agg a, y, h => by
    cases y <;> simp only [D.eqb, Bool.false_eq_true] at h
    rw [D.eqbL_eq _ _ h]
  | .tup a, y, h => by
    cases y <;> simp only [D.eqb, Bool.false_eq_true] at h
    rw [D.eqbL_eq _ _ h]
  | .sl o es ds, y, h => by
    cases y <;> simp only [D.eqb, Bool.false_eq_true, Bool.and_eq_true, decide_eq_true_eq, beq_iff_eq] at h
    rw [h.1.1, h.1.2, D.eqbL_eq _ _ h.2]
  | .vsl k a b c, y, h => by cases y <;> simp_all [D.eqb]
  | .ref k a, y, h => by cases y <;> simp_all [D.eqb]
  | .peek a, y, h => by
    cases y <;> simp only [D.eqb, Bool.false_eq_true] at h
    rw [D.eqbL_eq _ _ h]
  | .iface t a, y, h => by
    cases y <;> simp only [D.eqb, Bool.false_eq_true, Bool.and_eq_true, beq_iff_eq] at h
    rw [h.1, D.eqb_eq _ _ h.2]
  | .yld m k, y, h => by cases y <;> simp_all [D.eqb]
  | .val v, y, h => by
    cases y <;> try (simp [D.eqb] at h; done)
    unfold D.eqb at h
    split at h <;> simp_all
  | .fn f a b, .fn f' a' b', h => by
    cases f <;> cases f' <;> simp only [D.eqb, Bool.false_eq_true, Bool.and_eq_true, beq_iff_eq] at h
    rw [h.1.1, D.eqbL_eq _ _ h.1.2, D.eqbL_eq _ _ h.2]
  | .fn f a b, .any, h | .fn f a b, .bool _, h | .fn f a b, .int _ _, h | .fn f a b, .str _, h | .fn f a b, .val _, h | .fn f a b, .agg _, h | .fn f a b, .tup _, h
  | .fn f a b, .sl _ _ _, h | .fn f a b, .vsl _ _ _ _, h | .fn f a b, .ref _ _, h | .fn f a b, .peek _, h | .fn f a b, .iface _ _, h | .fn f a b, .yld _ _, h => by simp [D.eqb] at h
theorem D.eqbL_eq : ∀ (x y : List D), D.eqbL x y = true → x = y
  | [], y, h => by cases y <;> simp_all [D.eqbL]
  | a :: r, y, h => by
    cases y <;> simp only [D.eqbL, Bool.false_eq_true, Bool.and_eq_true] at h
    rw [D.eqb_eq _ _ h.1, D.eqbL_eq _ _ h.2]
end
end Go.Vm

/- The same run with what comes behind handed in: its equations are read off a function's text. -/
namespace Go.Vm
open Go.RowKit
set_option linter.unusedVariables false

variable {β : Type}
/-- so many slots that hold nothing known -/
def anys : Nat → List D → List D
  | 0, l => l
  | n + 1, l => .any :: anys n l
/-- slots, few of which are known: how many unknown ones stand ahead of each -/
def sp : List (Nat × D) → Nat → List D
  | [], t => anys t []
  | (g, d) :: r, t => anys g (d :: sp r t)
/-- what comes behind, and what it waits for -/
def bnd {α β : Type} (f : α → Option β) (x : Option α) : Option β :=
  match x with
  | none => none
  | some a => f a
/-- the same, in the order in which it is read -/
def bn {α β : Type} (x : Option α) (f : α → Option β) : Option β := bnd f x
def ifb {β : Type} (c : Bool) (x y : β) : β := cond c x y
@[simp] theorem bn_some {α β : Type} (a : α) (f : α → Option β) : bn (some a) f = f a := rfl
@[simp] theorem bn_none {α β : Type} (f : α → Option β) : bn none f = none := rfl
@[simp] theorem qa2 {β : Type} (x y : β) : ifb true x y = x := rfl
@[simp] theorem ifb_false {β : Type} (x y : β) : ifb false x y = y := rfl
@[congr] theorem bn_congr {α β : Type} {x y : Option α} {f : α → Option β} (h : x = y) : bn x f = bn y f := by rw [h]
@[congr] theorem ifb_congr {β : Type} {c d : Bool} {x y : β} (h : c = d) : ifb c x y = ifb d x y := by rw [h]
@[congr] theorem guardP_congr {α : Type} {p q : Prop} {x : Option α} (h : p = q) : guardP p x = guardP q x := by rw [h]
@[simp] theorem qah {α : Type} (x : Option α) : guardP True x = x := if_pos trivial
@[congr] theorem elim_congr {α : Type} {r s : Res} {f g : D → α} (h : r = s) : r.elim f g = s.elim f g := by rw [h]
@[simp] theorem elim_ret {α : Type} (d : D) (f g : D → α) : (Res.ret d).elim f g = f d := rfl
@[simp] theorem elim_pan {α : Type} (d : D) (f g : D → α) : (Res.pan d).elim f g = g d := rfl
theorem bnd_eq {α β : Type} (f : α → Option β) (x : Option α) : bnd f x = x.bind f := by cases x <;> rfl
/-- what a temporary holds -/
def Env.g (e : Env) (k : Nat) : D := e.t.getD k .any
/-- the same as Option.map, in the order in which it is read -/
def mp {α β : Type} (x : Option α) (f : α → β) : Option β := x.map f
def n64 (n : Int) : D := .int .i64 n
abbrev CallT := FuncId → List D → St → ORes
abbrev DcallT := D → List D → Option D → St → Option (Option D × St)
/-- a new variable -/
def allocO (cs : List D) (A : St) : Option (D × St) := some (.ref A.length 0, A ++ [.cells cs])
/-- a load's place is the same behind an effect -/
def sameAd (ad : D) (A A' : St) : Prop :=
  match ad with
  | .ref k _ => A[k]? = A'[k]?
  | _ => True
/-- a token laid by hint, if there is one -/
def tokO (h : List (Nat × Nat)) (d : D) (A : St) : Option (D × St) :=
  match h with
  | [] => some (d, A)
  | p :: r => some (tokD (p :: r) d A)
theorem tokO_eq (h : List (Nat × Nat)) (d : D) (A : St) : tokO h d A = some (tokD h d A) := by cases h <;> rfl
def Out.seqK (o : Out) (f : Env → St → Option β) (K : Out → Option β) : Option β :=
  match o.ex with
  | .normal => f o.env o.st
  | _ => K o
def opsK (X : Cx) (ops : Array Oper) : List Oper → Env → St → (Out → Option β) → Option β
  | [], e, A, K => K ⟨.normal, e, A⟩
  | o :: os, e, A, K => bnd (fun w =>
    match opK X.P o.op with
    | .pure => bnd (fun d => bnd (fun x => opsK X ops os { e with t := putD o.dst x.1 e.t } x.2 K) (tokO (hintOf X.h o.dst) d A)) (cond w (pureD X.P e.t o.op) (some undefD))
    | .world => bnd (fun r => bnd (fun x => opsK X ops os { e with t := putD o.dst x.1 e.t } x.2 K) (tokO (hintOf X.h o.dst) r.1 r.2)) (cond w (worldD X.P e.t o.op A) (some (undefD, A)))
    | .call => bnd (fun r =>
        r.1.elim (fun d => opsK X ops os { e with t := putD o.dst d e.t } r.2 K) (fun p => K ⟨.pan p, e, r.2⟩)) (cond w (callD X.call e.t o.op A) (some (.ret undefD, A)))
    | .defer => cond w (bnd (fun d => opsK X ops os { t := putD o.dst undefD e.t, df := d :: e.df } A K) (deferD e.t o.op)) none
    | .bad => none) (wantedD ops e.t o)
theorem opsK_eq (X : Cx) (ops : Array Oper) (K : Out → Option β) : ∀ (os : List Oper) (e : Env) (A : St), opsK X ops os e A K = (opsD X ops os e A).bind K
  | [], e, A => rfl
  | o :: os, e, A => by
    simp only [opsK, opsD, bnd_eq, tokO_eq, Option.bind_some, Option.bind_assoc]
    congr 1
    funext w
    cases opK X.P o.op with
    | pure => simp only [Option.bind_assoc]; congr 1; funext d; exact opsK_eq X ops K os _ _
    | world => simp only [Option.bind_assoc]; congr 1; funext d; exact opsK_eq X ops K os _ _
    | call =>
      simp only [Option.bind_assoc]
      congr 1
      funext r
      cases r.1 with
      | ret d => exact opsK_eq X ops K os _ _
      | pan p => rfl
    | defer =>
      cases w
      · rfl
      · simp only [cond_true, Option.bind_assoc]
        congr 1
        funext d
        exact opsK_eq X ops K os _ _
    | bad => rfl
/-- how the run is to be read: which branches are read twice, and the tables of the drawn regions -/
structure KH where
  J : Operand → Code → Code → Bool
  anc : Nat → List (List Nat)
/-- hints as they are written down -/
def mkHints (tok : List (Nat × List (Nat × Nat))) (live : List (Nat × List Nat)) (keep : List Nat) (ret : RetK) (valApp : Bool := false) (waitAl : Bool := false) (canA : Bool := false) (liveJ : List (Nat × List Nat) := []) : Hints :=
  { tok := fun t => (tok.lookup t).getD [], live := fun r => live.lookup r, loopKeep := fun r => keep.contains r, ret, valApp, waitAl, canA, liveJ := fun r => liveJ.lookup r }
/-- does code never come to its end? -/
def abrupt : Code → Bool
  | .ret | .exit _ => true
  | .seq a b => abrupt a || abrupt b
  | .cond _ a b => abrupt a && abrupt b
  | _ => false
/-- how much stands in code -/
def bulk : Code → Nat
  | .region _ ops _ => ops.size
  | .seq a b | .cond _ a b => bulk a + bulk b
  | .block _ c | .scope c => bulk c
  | .loop c => bulk c + 100
  | _ => 0
/-- what stands behind a branch is read once for each side: always; never; or by the sides' text -/
def joinText : Operand → Code → Code → Bool := fun _ a b => abrupt a || abrupt b
/-- the slot that a branch hangs on is known in the branch -/
def refine (c : Operand) (b : Bool) (e : Env) : Env :=
  match c with
  | .tmp t => { e with t := e.t.set t (.bool b) }
  | _ => e
theorem refine_eq (c : Operand) (b : Bool) (e : Env) (h : (evalO e.t c).bool? = some b) : refine c b e = e := by
  unfold refine
  split
  · rename_i t
    simp only [evalO] at h
    cases e with
    | mk l df =>
      simp only [Env.mk.injEq, and_true]
      simp only at h
      apply List.ext_getElem?
      intro i
      rw [List.getElem?_set]
      split
      · rename_i hti
        subst hti
        split
        · rename_i hl
          rw [List.getElem?_eq_getElem hl]
          rw [List.getD_eq_getElem?_getD, List.getElem?_eq_getElem hl] at h
          simp only [Option.getD_some] at h
          congr 1
          revert h
          cases l[t] <;> simp [D.bool?]
          intro h; exact h.symm
        · rename_i hl
          rw [List.getElem?_eq_none (by omega)]
      · rfl
  · rfl
/-! rounds, with what comes behind -/
def iterKN : Nat → (Env → St → Option ((Env × St) ⊕ β)) → Env → St → Option β
  | 0, _, _, _ => none
  | n + 1, s, e, A => (s e A).bind fun r => r.elim (fun p => iterKN n s p.1 p.2) some
noncomputable def iterK (s : Env → St → Option ((Env × St) ⊕ β)) (e : Env) (A : St) : Option β := limO fun k => iterKN k s e A
theorem iterKN_up (s : Env → St → Option ((Env × St) ⊕ β)) : ∀ (n : Nat) (e : Env) (A : St) (r : β), iterKN n s e A = some r → iterKN (n + 1) s e A = some r
  | 0, e, A, r, h => by simp [iterKN] at h
  | n + 1, e, A, r, h => by
    rw [iterKN] at h ⊢
    simp only [Option.bind_eq_some_iff] at h ⊢
    obtain ⟨x, h1, h2⟩ := h
    refine ⟨x, h1, ?_⟩
    cases x with
    | inl p => exact iterKN_up s n _ _ _ h2
    | inr b => exact h2
theorem iterK_lim (s : Env → St → Option ((Env × St) ⊕ β)) (e : Env) (A : St) : LimOf (fun k => iterKN k s e A) (iterK s e A) :=
  LimOf.of_mono fun j r h => iterKN_up s j e A r h
/-- a loop's equation -/
theorem iterK_eq (s : Env → St → Option ((Env × St) ⊕ β)) (e : Env) (A : St) : iterK s e A = (s e A).bind fun r => r.elim (fun p => iterK s p.1 p.2) some := by
  have h1 : LimOf (fun k => iterKN (k + 1) s e A) (iterK s e A) := by
    refine ⟨fun j r h => (iterK_lim s e A).mono _ r h, fun r => ?_⟩
    rw [(iterK_lim s e A).lim r]
    exact ⟨fun ⟨j, h⟩ => ⟨j, (iterK_lim s e A).mono j r h⟩, fun ⟨j, h⟩ => ⟨j + 1, h⟩⟩
  refine h1.unique ?_
  simp only [iterKN]
  refine (LimOf.const (s e A)).bind fun x => ?_
  cases x with
  | inl p => exact iterK_lim s _ _
  | inr b => exact LimOf.const _
theorem iterKN_eq (s : Env → St → Option Out) (K : Out → Option β) : ∀ (n : Nat) (e : Env) (A : St), (iterN n s e A).bind K =
    iterKN n (fun e A => (s e A).bind fun o => o.seqK (fun e A => some (.inl (e, A))) fun o => (K o).map .inr) e A
  | 0, e, A => rfl
  | n + 1, e, A => by
    simp only [iterN, iterKN, Option.bind_assoc]
    congr 1
    funext o
    unfold Out.seqK
    cases hx : o.ex with
    | normal => exact iterKN_eq s K n _ _
    | exit i => simp only [Option.bind_some]; cases K o <;> rfl
    | ret => simp only [Option.bind_some]; cases K o <;> rfl
    | pan d => simp only [Option.bind_some]; cases K o <;> rfl
theorem iterL_bind (s : Env → St → Option Out) (K : Out → Option β) (e : Env) (A : St) : (iterL s e A).bind K =
    iterK (fun e A => (s e A).bind fun o => o.seqK (fun e A => some (.inl (e, A))) fun o => (K o).map .inr) e A := by
  have h1 := (iterL_lim s e A).bind (G := fun _ => K) fun o => LimOf.const (K o)
  have : (fun j => (iterN j s e A).bind K) = fun j => iterKN j (fun e A => (s e A).bind fun o => o.seqK (fun e A => some (.inl (e, A))) fun o => (K o).map .inr) e A :=
    funext fun j => iterKN_eq s K j e A
  rw [this] at h1
  exact h1.unique (iterK_lim _ _ _)
/-- how loops go on, and how what is to be known is known: by choice, or reckoned -/
structure Mode where
  it : {β : Type} → (Env → St → Option ((Env × St) ⊕ β)) → Env → St → Option β
  gk : {α : Type} → St → St → Option α → Option α
  gs : {α : Type} → Prop → Bool → Option α → Option α
  gw : List D → Nat → St → Option D
  cl : St → St → Option St
noncomputable def mL : Mode := ⟨iterK, fun A A' x => guardP (Kept A A') x, fun p _ x => guardP p x, waitO, fun A A' => some (closeSt A A')⟩
@[simp] theorem mL_it (s : Env → St → Option ((Env × St) ⊕ β)) (e : Env) (A : St) : mL.it s e A = iterK s e A := rfl
@[simp] theorem mL_gk {α : Type} (A A' : St) (x : Option α) : mL.gk A A' x = guardP (Kept A A') x := rfl
@[simp] theorem mL_gs {α : Type} (p : Prop) (b : Bool) (x : Option α) : mL.gs p b x = guardP p x := rfl
@[simp] theorem mL_gw (cs : List D) (k : Nat) (A : St) : mL.gw cs k A = waitO cs k A := rfl
@[simp] theorem mL_cl (A A' : St) : mL.cl A A' = some (closeSt A A') := rfl
def waitM (M : Mode) (P : Program) (op : Op) (k : Nat) (A : St) : Option D := (zeroCs P op).bind fun cs => M.gw cs k A
def leaveM (M : Mode) (k : RetK) (A : St) (r : Res) (A' : St) : ORes :=
  match k with
  | .keep => some (r, A')
  | .trunc => M.gk A A' (some (r.shut A.length, A'.take A.length))
  | .can => M.gk A A' (some ((r.shut A.length).canon, A'.take A.length))
  | .frz => M.gk A A' (some ((r.frz A.length A').canon, A'.take A.length))
  | .own => M.gk A A' (match r with
      | .ret (.sl (.own c s) es ds) =>
        if c < A.length then some (r.shut A.length, A'.take A.length)
        else (match A'[c]? with
          | some (.tok m) => some (.ret (.sl (.own A.length s) es (D.shutL A.length ds)), A'.take A.length ++ [.tok m])
          | _ => none)
      | r => some (r.shut A.length, A'.take A.length))
@[simp] theorem leaveM_mL (k : RetK) (A : St) (r : Res) (A' : St) : leaveM mL k A r A' = leaveD k A r A' := by cases k <;> rfl
/-- a load's place is the same behind an effect: reckoned -/
def slotEqB : Option Slot → Option Slot → Bool
  | some (.cells a), some (.cells b) => D.eqbL a b
  | none, none => true
  | _, _ => false
theorem slotEqB_eq {x y : Option Slot} (h : slotEqB x y = true) : x = y := by
  unfold slotEqB at h
  split at h
  · rw [D.eqbL_eq _ _ h]
  · rfl
  · cases h
def sameAdB (ad : D) (A A' : St) : Bool :=
  match ad with
  | .ref k _ => slotEqB A[k]? A'[k]?
  | _ => true
def sameAtB (T : List TStep) (p : Nat × Nat) : Bool :=
  match T[p.1]?, T[p.2]? with
  | some l, some m => sameAdB l.ad m.A m.A'
  | _, _ => true
def allSameB (T : List TStep) : List (Nat × Nat) → Bool
  | [] => true
  | p :: r => sameAtB T p && allSameB T r
theorem sameAtB_eq {T : List TStep} {p : Nat × Nat} (h : sameAtB T p = true) : sameAt T p := by
  unfold sameAtB at h
  unfold sameAt
  split
  · rename_i l m h1 h2
    rw [h1, h2] at h
    simp only [sameAdB] at h
    split
    · rename_i k o hl
      rw [hl] at h
      exact slotEqB_eq h
    · trivial
  · trivial
theorem allSameB_eq {T : List TStep} : ∀ {l : List (Nat × Nat)}, allSameB T l = true → allSame T l
  | [], _ => trivial
  | p :: r, h => by
    simp only [allSameB, Bool.and_eq_true] at h
    exact ⟨sameAtB_eq h.1, allSameB_eq h.2⟩
def traceK (M : Mode) (X : Cx) (ops : Array Oper) : List Oper → Nat → List D → St → List TStep → (List TStep → List D → St → Option D → Option β) → Option β
  | [], _, e, A, acc, K => K acc e A none
  | o :: os, k, e, A, acc, K => bnd (fun w =>
    match drK X o.op with
    | .val => bnd (fun d => traceK M X ops os k (putD o.dst d e) A (⟨w, d, .any, A, A⟩ :: acc) K) (cond w (valD X.P e o.op) (some undefD))
    | .load => bnd (fun d => traceK M X ops os k (putD o.dst d e) A (⟨w, d, cond w (loadAddr e o.op) .any, A, A⟩ :: acc) K) (cond w ((worldD X.P e o.op A).map (·.1)) (some undefD))
    | .wait => bnd (fun d => traceK M X ops os (k + 1) (putD o.dst d e) A (⟨w, d, cond w (.ref k 0) .any, A, A⟩ :: acc) K) (cond w (waitM M X.P o.op k A) (some undefD))
    | .eff => match opK X.P o.op with
      | .call => bnd (fun x =>
          x.1.elim (fun d => traceK M X ops os k (putD o.dst d e) x.2 (⟨w, d, .any, A, x.2⟩ :: acc) K)
            (fun p => K (⟨w, .any, .any, A, x.2⟩ :: acc) (putD o.dst .any e) x.2 (some p))) (cond w (callD X.call e o.op A) (some (.ret undefD, A)))
      | _ => bnd (fun x => traceK M X ops os k (putD o.dst x.1 e) x.2 (⟨w, x.1, .any, A, x.2⟩ :: acc) K) (cond w (worldD X.P e o.op A) (some (undefD, A)))
    | .bad => none) (wantedD ops e o)
theorem bind_map' {α γ : Type} (x : Option α) (f : α → γ) (g : γ → Option β) : (x.map f).bind g = x.bind fun a => g (f a) := by cases x <;> rfl
def lastA (T : List TStep) (A : St) : St := (T.getLast?.map (·.A')).getD A
theorem lastA_cons (s : TStep) (T : List TStep) (A : St) : lastA (s :: T) A = lastA T s.A' := by
  unfold lastA
  cases T with
  | nil => rfl
  | cons a T => rw [List.getLast?_cons_cons]; cases h : (a :: T).getLast? with
    | none => simp at h
    | some y => rfl
theorem traceK_eq (X : Cx) (ops : Array Oper) (K : List TStep → List D → St → Option D → Option β) : ∀ (os : List Oper) (k : Nat) (e : List D) (A : St) (acc : List TStep),
    traceK mL X ops os k e A acc K = (traceD X ops os k e A).bind fun r => K (r.1.reverse ++ acc) (foldEnv (os.zip r.1) e) (lastA r.1 A) r.2
  | [], k, e, A, acc => by simp [traceK, traceD, foldEnv, lastA]
  | o :: os, k, e, A, acc => by
    simp only [traceK, traceD, bnd_eq, Option.bind_assoc]
    congr 1
    funext w
    cases drK X o.op with
    | val =>
      simp only [Option.bind_assoc]
      congr 1; funext d
      rw [traceK_eq X ops K os, bind_map']
      congr 1; funext r
      simp [lastA_cons, foldEnv]
    | load =>
      simp only [Option.bind_assoc]
      congr 1; funext d
      rw [traceK_eq X ops K os, bind_map']
      congr 1; funext r
      simp [lastA_cons, foldEnv]
    | wait =>
      simp only [show waitM mL X.P o.op k A = waitD X.P o.op k A from rfl]
      simp only [Option.bind_assoc]
      congr 1; funext d
      rw [traceK_eq X ops K os, bind_map']
      congr 1; funext r
      simp [lastA_cons, foldEnv]
    | eff =>
      cases opK X.P o.op
      case call =>
        simp only [Option.bind_assoc]
        congr 1; funext x
        cases x.1 with
        | ret d =>
          simp only [Res.elim]
          rw [traceK_eq X ops K os, bind_map']
          congr 1; funext r
          simp [lastA_cons, foldEnv]
        | pan p => simp [Res.elim, foldEnv, lastA]
      all_goals
        simp only [Option.bind_assoc]
        congr 1; funext x
        rw [traceK_eq X ops K os, bind_map']
        congr 1; funext r
        simp [lastA_cons, foldEnv]
    | bad => rfl
def drawKan (M : Mode) (X : Cx) (ops : Array Oper) (an : List (List Nat)) (e : Env) (A : St) (K : Out → Option β) : Option β :=
  bnd (fun H => traceK M X ops ops.toList A.length e.t (appH A H) [] fun T e' A' r =>
    cond (drawOk X ops an (r.map fun _ => T.length - 1))
      (M.gs (allSame T.reverse (loosePairs X ops an)) (allSameB T.reverse (loosePairs X ops an))
        (match r with
          | none => K ⟨.normal, { e with t := e' }, A'⟩
          | some p => K ⟨.pan p, { e with t := forgetEnv ops.toList e.t }, A'⟩)) none) (headD X ops.toList)
def drawK (M : Mode) (X : Cx) (ops : Array Oper) (e : Env) (A : St) (K : Out → Option β) : Option β := drawKan M X ops (ancAll ops) e A K
theorem guardP_bind {α : Type} (p : Prop) (x : Option α) (K : α → Option β) : (guardP p x).bind K = guardP p (x.bind K) := by
  unfold guardP; split <;> rfl
theorem drawK_eq (X : Cx) (ops : Array Oper) (e : Env) (A : St) (K : Out → Option β) : drawK mL X ops e A K = (drawD X ops e A).bind K := by
  unfold drawK drawKan drawD
  rw [bnd_eq, Option.bind_assoc]
  congr 1
  funext H
  rw [traceK_eq, Option.bind_assoc]
  congr 1
  funext r
  simp only [List.append_nil, List.length_reverse, List.reverse_reverse]
  cases drawOk X ops (ancAll ops) (r.2.map fun _ => r.1.length - 1) with
  | false => rfl
  | true =>
    simp only [cond_true, mL_gs]
    rw [guardP_bind]
    congr 1
    cases r.2 <;> rfl
/-- is a written-out table of what stands before each operation right? -/
def ancChk (an : List (List Nat)) : List Oper → Nat → Bool
  | [], j => an.length == j
  | o :: os, j => an[j]? == some (((bindsOn o) ++ (bindsOn o).flatMap (fun i => an.getD i [])).eraseDups) && (bindsOn o).all (fun i => decide (i < j)) && ancChk an os (j + 1)
theorem ancChk_fold (an : List (List Nat)) : ∀ (os : List Oper) (j : Nat), ancChk an os j = true →
    os.foldl (fun acc o => acc ++ [((bindsOn o) ++ (bindsOn o).flatMap (fun j => acc.getD j [])).eraseDups]) (an.take j) = an
  | [], j, h => by
    simp only [ancChk, beq_iff_eq] at h
    simp [List.take_of_length_le (Nat.le_of_eq h)]
  | o :: os, j, h => by
    simp only [ancChk, Bool.and_eq_true, beq_iff_eq, List.all_eq_true, decide_eq_true_eq] at h
    obtain ⟨⟨h1, h2⟩, h3⟩ := h
    rw [List.foldl_cons]
    have hf : (bindsOn o).flatMap (fun i => (an.take j).getD i []) = (bindsOn o).flatMap (fun i => an.getD i []) := by
      have : ∀ l : List Nat, (∀ i ∈ l, i < j) → l.flatMap (fun i => (an.take j).getD i []) = l.flatMap (fun i => an.getD i []) := by
        intro l
        induction l with
        | nil => intro _; rfl
        | cons a l ih =>
          intro hl
          rw [List.flatMap_cons, List.flatMap_cons, ih fun i hi => hl i (by simp [hi])]
          congr 1
          have := hl a (by simp)
          simp only [List.getD_eq_getElem?_getD, List.getElem?_take, if_pos this]
      exact this _ h2
    have ht : an.take j ++ [((bindsOn o) ++ (bindsOn o).flatMap (fun i => (an.take j).getD i [])).eraseDups] = an.take (j + 1) := by
      rw [hf, List.take_add_one, h1]
      rfl
    rw [ht]
    exact ancChk_fold an os (j + 1) h3
theorem ancChk_all (an : List (List Nat)) (ops : Array Oper) (h : ancChk an ops.toList 0 = true) : ancAll ops = an := by
  have := ancChk_fold an ops.toList 0 h
  simpa [ancAll] using this
def drawKn (M : Mode) (X : Cx) (an : List (List Nat)) (ops : Array Oper) (e : Env) (A : St) (K : Out → Option β) : Option β :=
  cond (ancChk an ops.toList 0) (drawKan M X ops an e A K) (drawK M X ops e A K)
theorem drawKn_eq (X : Cx) (an : List (List Nat)) (ops : Array Oper) (e : Env) (A : St) (K : Out → Option β) : drawKn mL X an ops e A K = (drawD X ops e A).bind K := by
  unfold drawKn
  cases h : ancChk an ops.toList 0 with
  | false => exact drawK_eq X ops e A K
  | true => rw [← ancChk_all an ops h]; exact drawK_eq X ops e A K
def joinK (K : Out → Option β) (r : (Env × St) ⊕ β) : Option β := r.elim (fun p => K ⟨.normal, p.1, p.2⟩) some
theorem seqK_join (o : Out) (K : Out → Option β) : (o.seqK (fun e A => some (.inl (e, A))) fun o => (K o).map .inr).bind (joinK K) = K o := by
  unfold Out.seqK
  cases o with
  | mk x e A => cases x <;> first | rfl | (simp only []; generalize K _ = r; cases r <;> rfl)
/-- what a loop over a function ends with, its slots aside -/
def endX (k : Nat) (A : St) : Option (Ex × St) :=
  match A[k]? with
  | some (.loop _ _ _ st) => match st with
    | .ready => some (.normal, A.set k .dead)
    | .ret => some (.ret, A.set k .dead)
    | .exit id => some (.exit id, A.set k .dead)
    | .busy => none
  | _ => none
theorem endX_eq (e : Env) (k : Nat) (A : St) : endRec e k A = (endX k A).map fun z => ⟨z.1, e, z.2⟩ := by
  unfold endRec endX
  cases A[k]? with
  | none => rfl
  | some s =>
    cases s with
    | loop f t rf st => cases st <;> rfl
    | _ => rfl
def codeK (M : Mode) (X : Cx) (J : KH) : {β : Type} → Code → Env → St → (Out → Option β) → Option β
  | _, .skip, e, A, K => K ⟨.normal, e, A⟩
  | _, .label _, e, A, K => K ⟨.normal, e, A⟩
  | _, .region id ops draw, e, A, K => cond draw (drawKn M X (J.anc id) ops e A K) (opsK X ops ops.toList e A K)
  | _, .seq a b, e, A, K => codeK M X J a e A fun o => o.seqK (fun e A => codeK M X J b (expand X.n e) A K) K
  | _, .cond c a b, e, A, K => bnd (fun t => cond (J.J c a b) (cond t (codeK M X J a (refine c true e) A fun o => K (o.atEnd X.n (X.h.liveJ (condId a b)))) (codeK M X J b (refine c false e) A fun o => K (o.atEnd X.n (X.h.liveJ (condId a b)))))
      (bnd (joinK K) (cond t (codeK M X J a (refine c true e) A fun o => (o.atEnd X.n (X.h.liveJ (condId a b))).seqK (fun e A => some (.inl (e, A))) fun o => (K o).map .inr)
        (codeK M X J b (refine c false e) A fun o => (o.atEnd X.n (X.h.liveJ (condId a b))).seqK (fun e A => some (.inl (e, A))) fun o => (K o).map .inr)))) (evalO e.t c).bool?
  | _, .block id c, e, A, K => codeK M X J c e A fun o => K (o.block id)
  | _, .loop c, e, A, K => M.it (fun e A => codeK M X J c (expand X.n e) A fun o => o.seqK
        (fun e' A' => cond (X.h.loopKeep (loopId c)) (some (.inl (mask X.n (X.h.live (loopId c)) e', A')))
          (M.gk A A' (some (.inl ((mask X.n (X.h.live (loopId c)) e').shut A.length, A'.take A.length)))))
        fun o => (K o).map .inr) (mask X.n (X.h.live (loopId c)) e) A
  | _, .exit id, e, A, K => K ⟨.exit id, e, A⟩
  | _, .ret, e, A, K => K ⟨.ret, e, A⟩
  | _, .rangeFunc g ps x y, e, A, K => cond (plainC x && plainC y)
      (bnd (fun r => r.1.elim (fun _ => bnd (fun z => K ⟨z.1, { e with df := (.yld true A.length, []) :: e.df }, z.2⟩) (endX (A.length + 1) r.2))
          (fun p => K ⟨.pan p, { e with df := (.yld true A.length, []) :: e.df }, r.2⟩))
        (seqCall X.P X.call (evalO e.t g) (A.length + 1) (A ++ [.dfb, .loop X.f (mask X.n (X.h.live (loopId y)) e).t (.rangeFunc g ps x y) .ready]))) none
  | _, _, _, _, _ => none
theorem codeK_eq (X : Cx) (J : KH) (hX : X.it = iterL) : ∀ (c : Code) {β : Type} (e : Env) (A : St) (K : Out → Option β), codeK mL X J c e A K = (codeD X c e A).bind K := by
  intro c
  induction c with
  | skip => intro β e A K; rfl
  | label l => intro β e A K; rfl
  | exit id => intro β e A K; rfl
  | ret => intro β e A K; rfl
  | region id ops draw =>
    intro β e A K
    simp only [codeK, codeD]
    cases draw
    · exact opsK_eq X ops K _ _ _
    · exact drawKn_eq X _ ops e A K
  | seq a b iha ihb =>
    intro β e A K
    simp only [codeK, codeD]
    rw [iha, Option.bind_assoc]
    congr 1
    funext o
    unfold Out.seqK Out.seq
    cases hx : o.ex with
    | normal => exact ihb _ _ K
    | exit i => simp only [Option.bind_some]; congr 1; cases o; simp at hx; subst hx; rfl
    | ret => simp only [Option.bind_some]; congr 1; cases o; simp at hx; subst hx; rfl
    | pan d => simp only [Option.bind_some]; congr 1; cases o; simp at hx; subst hx; rfl
  | cond c a b iha ihb =>
    intro β e A K
    simp only [codeK, codeD, bnd_eq]
    cases hc : (evalO e.t c).bool? with
    | none => rfl
    | some t =>
      simp only [Option.bind_some]
      simp only [iha, ihb]
      cases t
      · rw [refine_eq c false e hc]
        cases J.J c a b
        · simp only [cond_false]; rw [Option.bind_assoc, bind_map']; congr 1; funext o; exact seqK_join _ K
        · simp only [cond_false, cond_true]; rw [bind_map']
      · rw [refine_eq c true e hc]
        cases J.J c a b
        · simp only [cond_false, cond_true]; rw [Option.bind_assoc, bind_map']; congr 1; funext o; exact seqK_join _ K
        · simp only [cond_true]; rw [bind_map']
  | block id c ih =>
    intro β e A K
    simp only [codeK, codeD]
    rw [ih, bind_map']
  | loop c ih =>
    intro β e A K
    simp only [codeK, codeD, mL_it, mL_gk]
    rw [hX, iterL_bind]
    congr 1
    funext e A
    rw [ih]
    unfold stepD
    rw [Option.bind_assoc]
    congr 1
    funext o
    unfold Out.norm Out.seqK
    cases hx : o.ex with
    | normal =>
      simp only
      cases X.h.loopKeep (loopId c)
      · simp only [cond_false]; rw [guardP_bind]; rfl
      · rfl
    | exit i => simp only [Option.bind_some, hx]
    | ret => simp only [Option.bind_some, hx]
    | pan d => simp only [Option.bind_some, hx]
  | rangeFunc f ps x y =>
    intro β e A K
    simp only [codeK, codeD, bnd_eq]
    cases plainC x && plainC y
    · rfl
    · simp only [cond_true]
      rw [Option.bind_assoc]
      congr 1
      funext r
      cases r.1 with
      | ret d =>
        simp only [Res.elim]
        rw [endX_eq, bind_map']
      | pan d => rfl
  | scope c => intro β e A K; rfl
  | goto l => intro β e A K; rfl
  | refuse s => intro β e A K; rfl
def funK (M : Mode) (X : Cx) (J : KH) (dcall : D → List D → Option D → St → Option (Option D × St)) (fn : Func) (args : List D) (A : St) : ORes :=
  cond (decide (args.length ≤ fn.ntmps) && X.n == fn.ntmps)
    (fn.body.bind fun c => codeK M X J c (env0 fn (canA X.h args)) A fun o =>
      bnd (fun r => leaveM M X.h.ret A r.1 r.2) (o.leave fun e p A' => leavesD dcall (fun A' => (resultsD X.P e.t A' fn.results.toList).map packD) e.df p A')) none
theorem funK_eq (X : Cx) (J : KH) (dcall : D → List D → Option D → St → Option (Option D × St)) (fn : Func) (args : List D) (A : St) (hX : X.it = iterL) : funK mL X J dcall fn args A = funD X dcall fn args A := by
  unfold funK funD
  simp only [bnd_eq, leaveM_mL]
  congr 1
  congr 1
  funext c
  exact codeK_eq X J hX c _ A _
/-- what a deferred call comes to -/
noncomputable def Dcall (P : Program) (H : Ext0) : D → List D → Option D → St → Option (Option D × St) := dcallD P H (Run P H) iterL
def roundEndM (M : Mode) (k : Nat) (A : St) (o : Out) : ORes :=
  match o.ex with
  | .normal => bnd (fun A' => bnd (fun B => some (.ret (.bool true), B)) (M.cl A A')) (recSet k .ready o.st)
  | .ret => bnd (fun A' => bnd (fun B => some (.ret (.bool false), B)) (M.cl A A')) (recSet k .ret o.st)
  | .exit id => bnd (fun A' => bnd (fun B => some (.ret (.bool false), B)) (M.cl A A')) (recSet k (.exit id) o.st)
  | .pan d => cond o.env.df.isEmpty (bnd (fun B => some (.pan (d.shut A.length), B)) (M.cl A o.st)) none
theorem roundEndM_eq (k : Nat) (A : St) (o : Out) : roundEndM mL k A o = roundEnd k A o := by
  unfold roundEndM roundEnd
  have e : ∀ (x : Option St) (d : Res), bnd (fun A' => bnd (fun B => some (d, B)) (mL.cl A A')) x = x.map fun A' => (d, closeSt A A') := by
    intro x d; cases x <;> rfl
  cases o.ex <;> first | exact e _ _ | rfl
def roundK (M : Mode) (X : Cx) (J : KH) (k : Nat) (t : List D) (rf : Code) (args : List D) (A : St) : ORes :=
  match rf with
  | .rangeFunc _ ps x y => cond (plainC x && plainC y && (args.length == ps.size && t.length == X.n))
      (codeK M X J x ⟨setParams ps.toList args t, []⟩ A fun o1 => match o1.ex with
        | .normal => bnd (fun A2 => codeK M X J y (expand X.n o1.env) A2 (roundEndM M k A)) (recBusy k o1.st)
        | _ => none) none
  | _ => none
theorem roundK_eq (X : Cx) (J : KH) (hX : X.it = iterL) (k : Nat) (t : List D) (rf : Code) (args : List D) (A : St) : roundK mL X J k t rf args A = roundC X k t rf args A := by
  cases rf <;> try rfl
  simp only [roundK, roundC]
  congr 1
  rw [codeK_eq X J hX]
  congr 1
  funext o1
  cases o1.ex with
  | normal =>
    simp only [bnd_eq]
    congr 1
    funext A2
    rw [codeK_eq X J hX]
    congr 1
    funext o
    exact roundEndM_eq k A o
  | _ => rfl
/-- hints alone -/
def bare (hint : FuncId → Hints) : Ext0 := { hint, ext := fun _ => none }
noncomputable def rbodyK (M : Mode) (P : Program) (hint : FuncId → Hints) (JJ : FuncId → KH) (call : FuncId → List D → St → ORes) (f : FuncId) (k : Nat) (t : List D) (rf : Code) (args : List D) (A : St) : ORes :=
  (P.funcs[f]?).bind fun fn => roundK M (mkCx P (bare hint) call iterL f fn) (JJ f) k t rf args A
noncomputable def roundB (M : Mode) (P : Program) (H : Ext0) (JJ : FuncId → KH) (call : FuncId → List D → St → ORes) (args : List D) (A : St) : ORes :=
  match args with
  | [.tup [.yld true k], .tup as] => match A[k]? with
    | some (.loop f t rf .ready) => rbodyK M P H.hint JJ call f k t rf as A
    | _ => none
  | _ => none
theorem roundB_eq (P : Program) (H : Ext0) (JJ : FuncId → KH) (call : FuncId → List D → St → ORes) (args : List D) (A : St) : roundB mL P H JJ call args A = roundD P (mkCx P H call iterL) args A := by
  have key : ∀ f k t rf as, rbodyK mL P H.hint JJ call f k t rf as A = (P.funcs[f]?).bind fun fn => roundC (mkCx P H call iterL f fn) k t rf as A := by
    intro f k t rf as
    unfold rbodyK
    congr 1
    funext fn
    exact roundK_eq _ _ rfl _ _ _ _ _
  unfold roundB roundD
  simp only [key]
  rfl
/-- a function's own text -/
noncomputable def bodyN (M : Mode) (P : Program) (hint : FuncId → Hints) (JJ : FuncId → KH) (call : FuncId → List D → St → ORes) (dcall : D → List D → Option D → St → Option (Option D × St)) (f : FuncId) (args : List D) (A : St) : ORes :=
  (P.funcs[f]?).bind fun fn => cond (fnOk fn) (funK M (mkCx P (bare hint) call iterL f fn) (JJ f) dcall fn args A) none
noncomputable def bodyK (M : Mode) (P : Program) (H : Ext0) (JJ : FuncId → KH) (call : FuncId → List D → St → ORes) (dcall : D → List D → Option D → St → Option (Option D × St)) (f : FuncId) (args : List D) (A : St) : ORes :=
  cond (Nat.beq f rOff) (roundB M P H JJ call args A)
    (match H.ext f with
    | some x => x args A
    | none => bodyN M P H.hint JJ call dcall f args A)
/-- THE EQUATION, as it is read off -/
theorem Run_eqK (P : Program) (H : Ext0) (JJ : FuncId → KH) (f : FuncId) (args : List D) (A : St) : Run P H f args A = bodyK mL P H JJ (Run P H) (Dcall P H) f args A := by
  rw [Run_eq]
  unfold bodyD bodyK Dcall
  rw [roundB_eq]
  congr 1
  cases H.ext f with
  | some x => rfl
  | none =>
    simp only
    unfold bodyN
    congr 1
    funext fn
    congr 1
    exact (funK_eq _ _ _ _ _ _ rfl).symm
/-- a function's equation, of its own text -/
theorem Run_eqN (P : Program) (H : Ext0) (JJ : FuncId → KH) {f : FuncId} (hf : Nat.beq f rOff = false) (hx : H.ext f = none) (args : List D) (A : St) : Run P H f args A = bodyN mL P H.hint JJ (Run P H) (Dcall P H) f args A := by
  rw [Run_eqK (JJ := JJ)]
  unfold bodyK
  rw [hf, hx]
  rfl
/-- the statement of a loop over a function, by its body's name -/
def rfIn (j : Nat) : Code → Option Code
  | .seq a b | .cond _ a b => (rfIn j a).or (rfIn j b)
  | .block _ c | .loop c | .scope c => rfIn j c
  | .rangeFunc g ps x y => if loopId y = j then some (.rangeFunc g ps x y) else none
  | _ => none
def rfAt (P : Program) (f : FuncId) (j : Nat) : Code := ((P.funcs[f]?).bind fun fn => fn.body.bind (rfIn j)).getD .skip
/-! deferred calls, with what comes behind handed in -/
def SOut.seqK (o : SOut) (f : Env → PS → St → Option β) (K : SOut → Option β) : Option β :=
  match o.ex with
  | .normal => f o.env o.ps o.st
  | _ => K o
def SOut.leaveK (o : SOut) (f : Env → PS → St → Option β) : Option β :=
  match o.ex with
  | .normal | .ret => f o.env o.ps o.st
  | _ => none
def opsSK (X : Cx) (ops : Array Oper) : List Oper → Env → PS → St → (SOut → Option β) → Option β
  | [], e, ps, A, K => K ⟨.normal, e, ps, A⟩
  | o :: os, e, ps, A, K => cond (recOp o.op)
      (cond o.guard.isNone (opsSK X ops os { e with t := putD o.dst (recoverPS ps).1 e.t } (recoverPS ps).2 A K) none)
      (cond (yldCall e.t o.op) none (opsK X ops [o] e A fun r => r.seqK (fun e A => opsSK X ops os e ps A K) fun r => K ⟨r.ex, r.env, ps, r.st⟩))
theorem opsSK_eq (X : Cx) (ops : Array Oper) (K : SOut → Option β) : ∀ (os : List Oper) (e : Env) (ps : PS) (A : St), opsSK X ops os e ps A K = (opsSD X ops os e ps A).bind K
  | [], e, ps, A => rfl
  | o :: os, e, ps, A => by
    simp only [opsSK, opsSD]
    cases recOp o.op
    · simp only [cond_false]
      cases yldCall e.t o.op
      case true => rfl
      simp only [cond_false]
      rw [opsK_eq, Option.bind_assoc]
      congr 1
      funext r
      unfold Out.seqK
      cases hx : r.ex with
      | normal => exact opsSK_eq X ops K os _ _ _
      | exit i => simp only [hx, Option.bind_some]
      | ret => simp only [hx, Option.bind_some]
      | pan d => simp only [hx, Option.bind_some]
    · simp only [cond_true]
      cases o.guard.isNone
      · rfl
      · exact opsSK_eq X ops K os _ _ _
def codeSK (M : Mode) (X : Cx) (J : KH) : Code → Env → PS → St → (SOut → Option β) → Option β
  | .seq a b, e, ps, A, K => codeSK M X J a e ps A fun o => o.seqK (fun e ps A => codeSK M X J b (expand X.n e) ps A K) K
  | .cond c a b, e, ps, A, K => bnd (fun t => cond t (codeSK M X J a (refine c true e) ps A K) (codeSK M X J b (refine c false e) ps A K)) (evalO e.t c).bool?
  | .region id ops draw, e, ps, A, K => cond (ops.any fun o => recOp o.op) (cond draw none (opsSK X ops ops.toList e ps A K))
      (codeK M X J (.region id ops draw) e A fun o => K ⟨o.ex, o.env, ps, o.st⟩)
  | c, e, ps, A, K => cond (noRf c) (codeK M X J c e A fun o => K ⟨o.ex, o.env, ps, o.st⟩) none
theorem codeSK_eq (X : Cx) (J : KH) (hX : X.it = iterL) (c : Code) : ∀ (e : Env) (ps : PS) (A : St) (K : SOut → Option β), codeSK mL X J c e ps A K = (codeSD X c e ps A).bind K := by
  have hc : ∀ (c : Code) (e : Env) (ps : PS) (A : St) (K : SOut → Option β), codeK mL X J c e A (fun o => K ⟨o.ex, o.env, ps, o.st⟩) = ((codeD X c e A).map fun o => (⟨o.ex, o.env, ps, o.st⟩ : SOut)).bind K := by
    intro c e ps A K
    rw [codeK_eq X J hX, bind_map']
  induction c with
  | seq a b iha ihb =>
    intro e ps A K
    simp only [codeSK, codeSD]
    rw [iha, Option.bind_assoc]
    congr 1
    funext o
    unfold SOut.seqK SOut.seq
    cases hx : o.ex with
    | normal => exact ihb _ _ _ K
    | exit i => simp only [Option.bind_some]; congr 1; cases o; simp at hx; subst hx; rfl
    | ret => simp only [Option.bind_some]; congr 1; cases o; simp at hx; subst hx; rfl
    | pan d => simp only [Option.bind_some]; congr 1; cases o; simp at hx; subst hx; rfl
  | cond c a b iha ihb =>
    intro e ps A K
    simp only [codeSK, codeSD, bnd_eq]
    cases h : (evalO e.t c).bool? with
    | none => rfl
    | some t =>
      simp only [Option.bind_some]
      cases t
      · rw [refine_eq c false e h]; exact ihb _ _ _ K
      · rw [refine_eq c true e h]; exact iha _ _ _ K
  | region id ops draw =>
    intro e ps A K
    simp only [codeSK, codeSD]
    cases ops.any fun o => recOp o.op
    · simp only [cond_false]; exact hc _ _ _ _ K
    · cases draw
      · exact opsSK_eq X ops K _ _ _ _
      · rfl
  | _ =>
    intro e ps A K
    simp only [codeSK, codeSD]
    generalize noRf _ = b
    cases b
    · rfl
    · exact hc _ _ _ _ K
def defK (M : Mode) (X : Cx) (J : KH) (fn : Func) (args : List D) (p : Option D) (A : St) : Option (Option D × St) :=
  cond (decide (args.length ≤ fn.ntmps) && X.n == fn.ntmps)
    (fn.body.bind fun c => codeSK M X J c (env0 fn args) (p.map fun d => (d, false)) A fun o => o.leaveK fun e ps A' =>
      cond e.df.isEmpty (bnd (fun _ => M.gk A A' (some ((afterPS ps).map (D.shut A.length), A'.take A.length))) (resultsD X.P e.t A' fn.results.toList)) none) none
theorem defK_eq (X : Cx) (J : KH) (fn : Func) (args : List D) (p : Option D) (A : St) (hX : X.it = iterL) : defK mL X J fn args p A = defD X fn args p A := by
  unfold defK defD
  congr 1
  congr 1
  funext c
  rw [codeSK_eq X J hX]
  congr 1
  funext o
  unfold SOut.leaveK
  cases o.ex <;> simp only [bnd_eq, mL_gk]
/-- a deferred call of a function, as it is read off -/
noncomputable def dbodyK (M : Mode) (P : Program) (hint : FuncId → Hints) (JJ : FuncId → KH) (call : FuncId → List D → St → ORes) (g : FuncId) (args : List D) (p : Option D) (A : St) : Option (Option D × St) :=
  (P.funcs[g]?).bind fun fn => cond (fnOk fn) (defK M (mkCx P (bare hint) call iterL g fn) (JJ g) fn args p A) none
theorem Dcall_eqK (P : Program) (H : Ext0) (JJ : FuncId → KH) (g : FuncId) (first cap args : List D) (p : Option D) (A : St) :
    Dcall P H (.fn (.func g) first cap) args p A = dbodyK mL P H.hint JJ (Run P H) g (first ++ args ++ cap) p A := by
  unfold Dcall dcallD dbodyK
  simp only
  congr 1
  funext fn
  congr 1
  exact (defK_eq _ _ _ _ _ _ rfl).symm
end Go.Vm
