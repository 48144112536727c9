/- VmEv, VmClosed in one text. -/
import Derived.Test.YtikjlgcbcljehaaGreatDoorVmK
set_option linter.all false
/- The run, reckoned: what it tells the run says. -/
namespace Go.Vm
set_option linter.unusedVariables false

/-- y tells whatever x tells -/
def OLe {α : Type} (x y : Option α) : Prop := ∀ r, x = some r → y = some r
theorem OLe.refl {α : Type} (x : Option α) : OLe x x := fun _ h => h
theorem OLe.none {α : Type} (y : Option α) : OLe none y := fun _ h => by cases h
theorem OLe.of_eq {α : Type} {x y : Option α} (h : x = y) : OLe x y := h ▸ OLe.refl x
theorem OLe.bnd {α β : Type} {f g : α → Option β} {x y : Option α} (h : OLe x y) (k : ∀ a, OLe (f a) (g a)) : OLe (bnd f x) (bnd g y) := by
  intro r hr
  rw [bnd_eq, Option.bind_eq_some_iff] at hr ⊢
  obtain ⟨a, h1, h2⟩ := hr
  exact ⟨a, h a h1, k a r h2⟩
theorem OLe.bind {α β : Type} {f g : α → Option β} {x y : Option α} (h : OLe x y) (k : ∀ a, OLe (f a) (g a)) : OLe (x.bind f) (y.bind g) := by
  rw [← bnd_eq, ← bnd_eq]
  exact h.bnd k
theorem OLe.map {α β : Type} (f : α → β) {x y : Option α} (h : OLe x y) : OLe (x.map f) (y.map f) := by
  intro r hr
  rw [Option.map_eq_some_iff] at hr ⊢
  obtain ⟨a, h1, h2⟩ := hr
  exact ⟨a, h a h1, h2⟩
theorem OLe.cond {α : Type} (b : Bool) {x y x' y' : Option α} (h : OLe x y) (k : OLe x' y') : OLe (cond b x x') (cond b y y') := by
  cases b
  · exact k
  · exact h
theorem OLe.elim {α : Type} (r : Res) {f g f' g' : D → Option α} (h : ∀ d, OLe (f d) (f' d)) (k : ∀ d, OLe (g d) (g' d)) : OLe (r.elim f g) (r.elim f' g') := by
  cases r
  · exact h _
  · exact k _
/-- what a mode knows is so -/
structure MLe (M : Mode) : Prop where
  it : ∀ {β : Type} (s s' : Env → St → Option ((Env × St) ⊕ β)), (∀ e A, OLe (s e A) (s' e A)) → ∀ e A, OLe (M.it s e A) (mL.it s' e A)
  gk : ∀ {α : Type} (A A' : St) (x y : Option α), OLe x y → OLe (M.gk A A' x) (mL.gk A A' y)
  gs : ∀ {α : Type} (p : Prop) (b : Bool) (x y : Option α), (b = true → p) → OLe x y → OLe (M.gs p b x) (mL.gs p b y)
  gw : ∀ cs k A, OLe (M.gw cs k A) (mL.gw cs k A)
  cl : ∀ A A', OLe (M.cl A A') (mL.cl A A')

section
variable {β : Type} {M : Mode} (hM : MLe M) {P : Program} {h : Hints} {n : Nat} {fi : FuncId} {call callL : FuncId → List D → St → ORes} {it itL : (Env → St → Option Out) → Env → St → Option Out}
  (hc : ∀ f ds A, OLe (call f ds A) (callL f ds A))
include hc
omit hc in
theorem seqK_le (o : Out) {f f' : Env → St → Option β} {K K' : Out → Option β} (h1 : ∀ e A, OLe (f e A) (f' e A)) (h2 : ∀ o, OLe (K o) (K' o)) : OLe (o.seqK f K) (o.seqK f' K') := by
  unfold Out.seqK
  split
  · exact h1 _ _
  · exact h2 _
theorem apply_le (f : D) (args : List D) (A : St) : OLe (applyD call f args A) (applyD callL f args A) := by
  unfold applyD
  split
  · exact hc _ _ _
  · split
    · exact hc _ _ _
    · exact OLe.refl _
  · exact OLe.refl _
theorem callD_le (e : List D) (op : Op) (A : St) : OLe (callD call e op A) (callD callL e op A) := by
  unfold callD
  split
  · exact apply_le hc _ _ _
  · exact OLe.refl _
  · exact OLe.refl _
  · exact OLe.refl _
theorem opsK_le (ops : Array Oper) {K K' : Out → Option β} (hK : ∀ o, OLe (K o) (K' o)) : ∀ (os : List Oper) (e : Env) (A : St), OLe (opsK ⟨P, h, call, it, n, fi⟩ ops os e A K) (opsK ⟨P, h, callL, itL, n, fi⟩ ops os e A K')
  | [], e, A => hK _
  | o :: os, e, A => by
    simp only [opsK]
    refine (OLe.refl _).bnd fun w => ?_
    split
    · exact (OLe.refl _).bnd fun d => (OLe.refl _).bnd fun x => opsK_le ops hK os _ _
    · exact (OLe.refl _).bnd fun d => (OLe.refl _).bnd fun x => opsK_le ops hK os _ _
    · exact (OLe.cond w (callD_le hc _ _ _) (OLe.refl _)).bnd fun r => OLe.elim _ (fun d => opsK_le ops hK os _ _) fun p => hK _
    · exact OLe.cond w ((OLe.refl _).bnd fun d => opsK_le ops hK os _ _) (OLe.refl _)
    · exact OLe.refl _
include hM
theorem traceK_le (ops : Array Oper) {K K' : List TStep → List D → St → Option D → Option β} (hK : ∀ T e A r, OLe (K T e A r) (K' T e A r)) : ∀ (os : List Oper) (k : Nat) (e : List D) (A : St) (acc : List TStep),
    OLe (traceK M ⟨P, h, call, it, n, fi⟩ ops os k e A acc K) (traceK mL ⟨P, h, callL, itL, n, fi⟩ ops os k e A acc K')
  | [], k, e, A, acc => hK _ _ _ _
  | o :: os, k, e, A, acc => by
    simp only [traceK, show drK (⟨P, h, call, it, n, fi⟩ : Cx) o.op = drK ⟨P, h, callL, itL, n, fi⟩ o.op from rfl]
    refine (OLe.refl _).bnd fun w => ?_
    split
    · exact (OLe.refl _).bnd fun d => traceK_le ops hK os _ _ _ _
    · exact (OLe.refl _).bnd fun d => traceK_le ops hK os _ _ _ _
    · refine OLe.bnd (OLe.cond w ?_ (OLe.refl _)) fun d => traceK_le ops hK os _ _ _ _
      unfold waitM
      exact (OLe.refl _).bind fun cs => hM.gw _ _ _
    · split
      · exact (OLe.cond w (callD_le hc _ _ _) (OLe.refl _)).bnd fun r => OLe.elim _ (fun d => traceK_le ops hK os _ _ _ _) fun p => hK _ _ _ _
      · exact (OLe.refl _).bnd fun d => traceK_le ops hK os _ _ _ _
    · exact OLe.refl _
theorem drawKan_le (ops : Array Oper) (an : List (List Nat)) (e : Env) (A : St) {K K' : Out → Option β} (hK : ∀ o, OLe (K o) (K' o)) : OLe (drawKan M ⟨P, h, call, it, n, fi⟩ ops an e A K) (drawKan mL ⟨P, h, callL, itL, n, fi⟩ ops an e A K') := by
  unfold drawKan
  rw [head_lim (call := fun _ => call) (it := fun _ => it) (callL := callL) (itL := itL) (P := P) (h := h) (n := n) (fi := fi) 0]
  refine (OLe.refl _).bnd fun H => traceK_le hM hc ops (fun T e' A' r => ?_) _ _ _ _ _
  refine OLe.cond _ (hM.gs _ _ _ _ allSameB_eq ?_) (OLe.refl _)
  cases r
  · exact hK _
  · exact hK _
theorem drawKn_le (an : List (List Nat)) (ops : Array Oper) (e : Env) (A : St) {K K' : Out → Option β} (hK : ∀ o, OLe (K o) (K' o)) : OLe (drawKn M ⟨P, h, call, it, n, fi⟩ an ops e A K) (drawKn mL ⟨P, h, callL, itL, n, fi⟩ an ops e A K') := by
  unfold drawKn
  exact OLe.cond _ (drawKan_le hM hc ops an e A hK) (drawKan_le hM hc ops _ e A hK)
omit hc hM in
theorem joinK_le {K K' : Out → Option β} (hK : ∀ o, OLe (K o) (K' o)) (r : (Env × St) ⊕ β) : OLe (joinK K r) (joinK K' r) := by
  cases r
  · exact hK _
  · exact OLe.refl _
theorem codeK_le (J : KH) : ∀ (c : Code) {β : Type} (e : Env) (A : St) {K K' : Out → Option β}, (∀ o, OLe (K o) (K' o)) → OLe (codeK M ⟨P, h, call, it, n, fi⟩ J c e A K) (codeK mL ⟨P, h, callL, itL, n, fi⟩ J c e A K') := by
  intro c
  induction c with
  | skip => intro β e A K K' hK; exact hK _
  | label l => intro β e A K K' hK; exact hK _
  | exit id => intro β e A K K' hK; exact hK _
  | ret => intro β e A K K' hK; exact hK _
  | region id ops draw =>
    intro β e A K K' hK
    simp only [codeK]
    exact OLe.cond _ (drawKn_le hM hc _ ops e A hK) (opsK_le hc ops hK _ e A)
  | seq x y ihx ihy =>
    intro β e A K K' hK
    simp only [codeK]
    exact ihx _ _ fun o => seqK_le o (fun e A => ihy _ _ hK) hK
  | cond c x y ihx ihy =>
    intro β e A K K' hK
    simp only [codeK]
    refine (OLe.refl _).bnd fun t => OLe.cond _ (OLe.cond _ (ihx _ _ fun o => hK _) (ihy _ _ fun o => hK _)) ?_
    have hs : ∀ o : Out, OLe (o.seqK (fun e A => some (Sum.inl (e, A))) fun o => (K o).map Sum.inr) (o.seqK (fun e A => some (Sum.inl (e, A))) fun o => (K' o).map Sum.inr) :=
      fun o => seqK_le o (fun e A => OLe.refl _) fun o => (hK o).map _
    exact OLe.bnd (OLe.cond _ (ihx _ _ fun o => hs _) (ihy _ _ fun o => hs _)) (joinK_le hK)
  | block id c ih =>
    intro β e A K K' hK
    simp only [codeK]
    exact ih _ _ fun o => hK _
  | loop c ih =>
    intro β e A K K' hK
    simp only [codeK]
    refine hM.it _ _ (fun e A => ih _ _ fun o => seqK_le o (fun e' A' => OLe.cond _ (OLe.refl _) (hM.gk _ _ _ _ (OLe.refl _))) fun o => (hK o).map _) _ _
  | rangeFunc g ps x y =>
    intro β e A K K' hK
    simp only [codeK]
    refine OLe.cond _ (OLe.bnd ?_ fun r => OLe.elim _ (fun d => (OLe.refl _).bnd fun z => hK _) fun p => hK _) (OLe.refl _)
    unfold seqCall
    split
    · exact OLe.cond _ (hc _ _ _) (OLe.refl _)
    · exact OLe.refl _
  | scope c => intro β e A K K' hK; exact OLe.refl _
  | goto l => intro β e A K K' hK; exact OLe.refl _
  | refuse s => intro β e A K K' hK; exact OLe.refl _
omit hM hc in
theorem leaves_le {dcall dcallL : D → List D → Option D → St → Option (Option D × St)} (hd : ∀ f args p A, OLe (dcall f args p A) (dcallL f args p A)) (res : St → Option D) : ∀ (dfs : List (D × List D)) (p : Option D) (A : St),
    OLe (leavesD dcall res dfs p A) (leavesD dcallL res dfs p A)
  | [], none, A => OLe.refl _
  | [], some p, A => OLe.refl _
  | (f, args) :: r, p, A => by
    simp only [leavesD]
    split
    · split
      · exact leaves_le hd res r _ _
      · exact OLe.refl _
    · exact (hd _ args p A).bind fun x => leaves_le hd res r _ _
omit hc in
theorem leaveM_le (k : RetK) (A : St) (r : Res) (A' : St) : OLe (leaveM M k A r A') (leaveM mL k A r A') := by
  cases k with
  | keep => exact OLe.refl _
  | trunc => exact hM.gk _ _ _ _ (OLe.refl _)
  | own => exact hM.gk _ _ _ _ (OLe.refl _)
  | can => exact hM.gk _ _ _ _ (OLe.refl _)
  | frz => exact hM.gk _ _ _ _ (OLe.refl _)
theorem funK_le (J : KH) {dcall dcallL : D → List D → Option D → St → Option (Option D × St)} (hd : ∀ f args p A, OLe (dcall f args p A) (dcallL f args p A)) (fn : Func) (args : List D) (A : St) :
    OLe (funK M ⟨P, h, call, it, n, fi⟩ J dcall fn args A) (funK mL ⟨P, h, callL, itL, n, fi⟩ J dcallL fn args A) := by
  unfold funK
  dsimp only
  refine OLe.cond _ ((OLe.refl _).bind fun c => codeK_le hM hc J c _ _ fun o => OLe.bnd ?_ fun r => leaveM_le hM _ _ _ _) (OLe.refl _)
  unfold Out.leave
  split
  · exact leaves_le hd _ _ _ _
  · exact leaves_le hd _ _ _ _
  · exact leaves_le hd _ _ _ _
  · exact OLe.refl _
theorem round_le (J : KH) (k : Nat) (t : List D) (rf : Code) (args : List D) (A : St) : OLe (roundK M ⟨P, h, call, it, n, fi⟩ J k t rf args A) (roundK mL ⟨P, h, callL, itL, n, fi⟩ J k t rf args A) := by
  unfold roundK
  split
  · rename_i g0 ps x y
    dsimp only
    refine OLe.cond _ (codeK_le hM hc J x _ _ fun o1 => ?_) (OLe.refl _)
    split
    · refine (OLe.refl _).bnd fun A2 => codeK_le hM hc J y _ _ fun o => ?_
      unfold roundEndM
      split
      · exact (OLe.refl _).bnd fun A' => (hM.cl _ _).bnd fun B => OLe.refl _
      · exact (OLe.refl _).bnd fun A' => (hM.cl _ _).bnd fun B => OLe.refl _
      · exact (OLe.refl _).bnd fun A' => (hM.cl _ _).bnd fun B => OLe.refl _
      · exact OLe.cond _ ((hM.cl _ _).bnd fun B => OLe.refl _) (OLe.refl _)
    · exact OLe.refl _
  · exact OLe.refl _
omit hM in
theorem opsSK_le {K K' : SOut → Option β} (hK : ∀ o, OLe (K o) (K' o)) (ops : Array Oper) : ∀ (os : List Oper) (e : Env) (ps : PS) (A : St), OLe (opsSK ⟨P, h, call, it, n, fi⟩ ops os e ps A K) (opsSK ⟨P, h, callL, itL, n, fi⟩ ops os e ps A K')
  | [], e, ps, A => hK _
  | o :: os, e, ps, A => by
    simp only [opsSK]
    refine OLe.cond _ (OLe.cond _ (opsSK_le hK ops os _ _ _) (OLe.refl _)) (OLe.cond _ (OLe.refl _) (opsK_le hc ops (fun r => ?_) _ _ _))
    exact seqK_le r (fun e A => opsSK_le hK ops os _ _ _) fun r => hK _
theorem codeSK_le (J : KH) : ∀ (c : Code) (e : Env) (ps : PS) (A : St) {K K' : SOut → Option β}, (∀ o, OLe (K o) (K' o)) → OLe (codeSK M ⟨P, h, call, it, n, fi⟩ J c e ps A K) (codeSK mL ⟨P, h, callL, itL, n, fi⟩ J c e ps A K') := by
  intro c
  induction c with
  | seq x y ihx ihy =>
    intro e ps A K K' hK
    simp only [codeSK]
    refine ihx _ _ _ fun o => ?_
    unfold SOut.seqK
    split
    · exact ihy _ _ _ hK
    · exact hK _
  | cond c x y ihx ihy =>
    intro e ps A K K' hK
    simp only [codeSK]
    exact (OLe.refl _).bnd fun t => OLe.cond _ (ihx _ _ _ hK) (ihy _ _ _ hK)
  | region id ops draw =>
    intro e ps A K K' hK
    simp only [codeSK]
    exact OLe.cond _ (OLe.cond _ (OLe.refl _) (opsSK_le hc hK ops _ _ _ _)) (codeK_le hM hc J _ _ _ fun o => hK _)
  | _ =>
    intro e ps A K K' hK
    simp only [codeSK]
    exact OLe.cond _ (codeK_le hM hc J _ _ _ fun o => hK _) (OLe.refl _)
theorem defK_le (J : KH) (fn : Func) (args : List D) (p : Option D) (A : St) : OLe (defK M ⟨P, h, call, it, n, fi⟩ J fn args p A) (defK mL ⟨P, h, callL, itL, n, fi⟩ J fn args p A) := by
  unfold defK
  dsimp only
  refine OLe.cond _ ((OLe.refl _).bind fun c => codeSK_le hM hc J c _ _ _ fun o => ?_) (OLe.refl _)
  unfold SOut.leaveK
  split
  · exact OLe.cond _ ((OLe.refl _).bnd fun _ => hM.gk _ _ _ _ (OLe.refl _)) (OLe.refl _)
  · exact OLe.cond _ ((OLe.refl _).bnd fun _ => hM.gk _ _ _ _ (OLe.refl _)) (OLe.refl _)
  · exact OLe.refl _
theorem bodyK_le (H : Ext0) (JJ : FuncId → KH) {dcall dcallL : D → List D → Option D → St → Option (Option D × St)} (hd : ∀ f args p A, OLe (dcall f args p A) (dcallL f args p A)) (f : FuncId) (args : List D) (A : St) :
    OLe (bodyK M P H JJ call dcall f args A) (bodyK mL P H JJ callL dcallL f args A) := by
  unfold bodyK
  refine OLe.cond _ ?_ ?_
  · unfold roundB
    split
    · split
      · unfold rbodyK
        exact (OLe.refl _).bind fun fn => round_le hM hc _ _ _ _ _ _
      · exact OLe.refl _
    · exact OLe.refl _
  · split
    · exact OLe.refl _
    · unfold bodyN
      exact (OLe.refl _).bind fun fn => OLe.cond _ (funK_le hM hc _ hd fn args A) (OLe.refl _)
end

/-! reckoned -/
def waitB (cs : List D) (k : Nat) (A : St) : Option D :=
  match A[k]? with
  | some (.cells cs') => cond (D.eqbL cs' cs) (some (.ref k 0)) none
  | _ => none
def closeGo (n : Nat) : Nat → St → St → Option St
  | 0, _, _ => some []
  | k + 1, a :: A, b :: B => bnd (fun s => bnd (fun r => some (s :: r)) (closeGo n k A B)) (cond (b.shutB n) (some b) (cond (a.shutB n) (some (b.shut n)) none))
  | _ + 1, _, _ => none
def mN (n : Nat) : Mode := ⟨iterKN n, fun A A' x => cond (keptB A A') x none, fun _ b x => cond b x none, waitB, fun A A' => closeGo A.length A.length A A'⟩
open Classical in
theorem closeGo_eq (n : Nat) : ∀ (k : Nat) (A A' B : St), closeGo n k A A' = some B → B.length = k ∧ ∀ i, i < k → ∃ a b, A[i]? = some a ∧ A'[i]? = some b ∧ B[i]? = some (if A'[i]? = A[i]? then a else b.shut n) := by
  intro k
  induction k with
  | zero => intro A A' B h; simp only [closeGo, Option.some.injEq] at h; subst h; exact ⟨rfl, fun i hi => by omega⟩
  | succ k ih =>
    intro A A' B h
    cases A with
    | nil => simp [closeGo] at h
    | cons a A =>
      cases A' with
      | nil => simp [closeGo] at h
      | cons b A' =>
        simp only [closeGo, bnd_eq, Option.bind_eq_some_iff, Option.some.injEq] at h
        obtain ⟨s, hs, r, hr, rfl⟩ := h
        obtain ⟨h1, h2⟩ := ih A A' r hr
        refine ⟨by simp [h1], fun i hi => ?_⟩
        cases i with
        | zero =>
          refine ⟨a, b, rfl, rfl, ?_⟩
          simp only [List.getElem?_cons_zero, Option.some.injEq]
          cases hb : b.shutB n with
          | true =>
            rw [hb] at hs
            simp only [cond_true, Option.some.injEq] at hs
            subst hs
            split
            · rename_i e; exact e
            · exact (Slot.shutB_eq n b hb).symm
          | false =>
            rw [hb] at hs
            cases ha : a.shutB n with
            | false => rw [ha] at hs; simp at hs
            | true =>
              rw [ha] at hs
              simp only [cond_true, cond_false, Option.some.injEq] at hs
              subst hs
              rw [if_neg]
              rintro rfl
              rw [ha] at hb
              cases hb
        | succ i =>
          obtain ⟨a', b', q1, q2, q3⟩ := h2 i (by omega)
          exact ⟨a', b', by simpa using q1, by simpa using q2, by simpa using q3⟩
theorem mN_le (n : Nat) : MLe (mN n) := by
  refine ⟨fun s s' hs e A r hr => ?_, fun A A' x y h r hr => ?_, fun p b x y hp h r hr => ?_, fun cs k A r hr => ?_, fun A A' r hr => ?_⟩
  · rw [mL_it]
    have key : ∀ (m : Nat) e A r, iterKN m s e A = some r → iterKN m s' e A = some r := by
      intro m
      induction m with
      | zero => intro e A r h; simp [iterKN] at h
      | succ m ih =>
        intro e A r h
        simp only [iterKN, Option.bind_eq_some_iff] at h ⊢
        obtain ⟨x, h1, h2⟩ := h
        refine ⟨x, hs _ _ _ h1, ?_⟩
        cases x with
        | inl p => exact ih _ _ _ h2
        | inr b => exact h2
    exact ((iterK_lim s' e A).lim r).2 ⟨n, key n e A r hr⟩
  · simp only [mN] at hr
    cases hk : keptB A A' with
    | false => rw [hk] at hr; simp at hr
    | true =>
      rw [hk] at hr
      rw [mL_gk, guardP_eq]
      exact ⟨keptB_eq hk, h r hr⟩
  · simp only [mN] at hr
    cases hb : b with
    | false => rw [hb] at hr; simp at hr
    | true =>
      rw [hb] at hr
      rw [mL_gs, guardP_eq]
      exact ⟨hp hb, h r hr⟩
  · simp only [mN, waitB] at hr
    rw [mL_gw]
    unfold waitO
    rw [guardP_eq]
    split at hr
    · rename_i cs' hA
      cases he : D.eqbL cs' cs with
      | false => rw [he] at hr; simp at hr
      | true =>
        rw [he] at hr
        rw [← D.eqbL_eq _ _ he]
        exact ⟨hA, hr⟩
    · cases hr
  · simp only [mN] at hr
    obtain ⟨h1, h2⟩ := closeGo_eq _ _ _ _ _ hr
    rw [mL_cl, Option.some.injEq]
    refine List.ext_getElem? fun i => ?_
    rcases Nat.lt_or_ge i A.length with hi | hi
    · obtain ⟨a, b, q1, q2, q3⟩ := h2 i hi
      rw [q3]
      simp only [closeSt, List.getElem?_map, List.getElem?_range hi, Option.map_some, Option.some.injEq]
      simp only [List.getD_eq_getElem?_getD, q1, q2, Option.getD_some]
    · rw [List.getElem?_eq_none (l := r) (by omega), List.getElem?_eq_none (by rw [closeSt_len]; exact hi)]
noncomputable def dcallK (M : Mode) (P : Program) (H : Ext0) (JJ : FuncId → KH) (call : FuncId → List D → St → ORes) (f : D) (args : List D) (p : Option D) (A : St) : Option (Option D × St) :=
  match f with
  | .fn (.func g) first cap => dbodyK M P H.hint JJ call g (first ++ args ++ cap) p A
  | _ => none
theorem dcallK_le {M : Mode} (hM : MLe M) (P : Program) (H : Ext0) (JJ : FuncId → KH) {call : FuncId → List D → St → ORes} (hc : ∀ f ds A, OLe (call f ds A) (Run P H f ds A)) (f : D) (args : List D) (p : Option D) (A : St) :
    OLe (dcallK M P H JJ call f args p A) (Dcall P H f args p A) := by
  unfold dcallK
  split
  · rw [Dcall_eqK (JJ := JJ)]
    unfold dbodyK
    exact (OLe.refl _).bind fun fn => OLe.cond _ (defK_le hM hc _ fn _ _ _) (OLe.refl _)
  · exact OLe.none _
/-- a step: what it reckons the run says -/
theorem step_le {M : Mode} (hM : MLe M) (P : Program) (H : Ext0) (JJ : FuncId → KH) {call : FuncId → List D → St → ORes} {dcall : D → List D → Option D → St → Option (Option D × St)} (hc : ∀ f ds A, OLe (call f ds A) (Run P H f ds A))
    (hd : ∀ f args p A, OLe (dcall f args p A) (dcallK M P H JJ call f args p A)) (f : FuncId) (ds : List D) (A : St) :
    OLe (bodyK M P H JJ call dcall f ds A) (Run P H f ds A) := by
  rw [Run_eqK (JJ := JJ)]
  exact bodyK_le hM hc H JJ (fun f args p A r hr => dcallK_le hM P H JJ hc f args p A r (hd f args p A r hr)) f ds A
end Go.Vm

/- A run from the empty store, of what is closed, holds at every store. -/
namespace Go.Vm
open Go.RowKit
set_option linter.unusedVariables false

theorem Inv.below {g : Gh} {A : St} {w w' : World} (I : Inv g A w) (h : Below w.heap.size w w') : Ext g w g w' ∧ Inv g A w' := by
  have hh : ∀ b, b < w.heap.size → w'.heap[b]? = w.heap[b]? := h.block
  have hc : ∀ b off, b < w.heap.size → w'.cell? ⟨b, off, none⟩ = w.cell? ⟨b, off, none⟩ ∧ w'.frozen? ⟨b, off, none⟩ = w.frozen? ⟨b, off, none⟩ := fun b off hb => cell_of_heap (hh b hb) off
  have E : Ext g w g w' := by
    refine ⟨rfl, ⟨h.os, h.tape, h.output, h.size, fun b hb => hh b (Nat.lt_of_lt_of_le hb I.base)⟩, fun _ _ h => h, fun b off hs => (hc b off (I.old b off hs)).1, Nat.le_refl _, fun _ _ => BindLe.refl _⟩
  refine ⟨E, ⟨I.len, Nat.le_trans I.base h.size, fun j s hj => ?_, I.sep, I.own, fun b off hs => Nat.lt_of_lt_of_le (I.old b off hs) h.size⟩⟩
  have hlt : j < g.len := I.len ▸ (List.getElem?_eq_some_iff.1 hj).1
  exact (I.slot j s hj).keep E (fun b off ho => hc b off (I.lt hlt ho)) fun l hl => hh l (I.lt hlt (off := 0) (by rw [hl]; rfl))
theorem closed_sound {P : Program} {H : Ext0} (hx : ExtOk P H) {f : FuncId} {b : Bool} {A' : St} (h : Run P H f [] [] = some (.ret (.bool b), A')) (A : St) : Sound P f [] A (.ret (.bool b), A) := by
  intro g w vs I hr
  simp only [RepL] at hr
  subst hr
  let g0 : Gh := ⟨w.heap.size, 0, fun _ => .none, fun _ _ => False⟩
  have I0 : Inv g0 [] w := ⟨rfl, Nat.le_refl _, fun k s hk => by simp at hk, fun k _ _ _ hk => by simp [g0] at hk, fun k _ _ hk => by simp [g0] at hk, fun _ _ hs => hs.elim⟩
  rcases (Run_sound P H hx f [] [] _ h).1 g0 w [] I0 (by simp [RepL]) with ⟨h1, h2⟩ | ⟨v, w', g', d, h1, E, _, h2, h3⟩
  · left
    refine ⟨h1, h2.mono fun e w' ⟨g', E, _, hen⟩ => ?_⟩
    obtain ⟨E1, I1⟩ := I.below E.below
    cases e <;> simp only [EndOk] at hen
    rename_i v
    exact ⟨g, E1, I1, by simpa [EndOk, Rep] using hen⟩
  · right
    obtain ⟨E1, I1⟩ := I.below E.below
    cases h2
    exact ⟨v, w', g, _, h1, E1, I1, rfl, by simpa [Rep] using h3⟩
end Go.Vm
