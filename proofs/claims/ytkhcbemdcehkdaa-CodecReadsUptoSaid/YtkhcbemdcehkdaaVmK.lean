/- The same run with what comes behind handed in: its equations are read off a function's text. -/
import Derived.Test.YtkhcbemdcehkdaaVmLim
set_option linter.all false
namespace Go.Vm
open Go.RowKit
set_option linter.unusedVariables false

variable {β : Type}
/-- what comes behind, and what it waits for -/
def bnd {α β : Type} (f : α → Option β) (x : Option α) : Option β :=
  match x with
  | none => none
  | some a => f a
/-- the same, in the order in which it is read -/
def bn {α β : Type} (x : Option α) (f : α → Option β) : Option β := bnd f x
def ifb {β : Type} (c : Bool) (x y : β) : β := cond c x y
@[simp] theorem qc7 {α β : Type} (a : α) (f : α → Option β) : bn (some a) f = f a := rfl
@[simp] theorem qdg {α β : Type} (f : α → Option β) : bn none f = none := rfl
@[simp] theorem qb1 {β : Type} (x y : β) : ifb true x y = x := rfl
@[simp] theorem qbc {β : Type} (x y : β) : ifb false x y = y := rfl
@[congr] theorem bn_congr {α β : Type} {x y : Option α} {f : α → Option β} (h : x = y) : bn x f = bn y f := by rw [h]
@[congr] theorem ifb_congr {β : Type} {c d : Bool} {x y : β} (h : c = d) : ifb c x y = ifb d x y := by rw [h]
@[congr] theorem guardP_congr {α : Type} {p q : Prop} {x : Option α} (h : p = q) : guardP p x = guardP q x := by rw [h]
@[simp] theorem qap {α : Type} (x : Option α) : guardP True x = x := if_pos trivial
@[congr] theorem elim_congr {α : Type} {r s : Res} {f g : D → α} (h : r = s) : r.elim f g = s.elim f g := by rw [h]
@[simp] theorem qb2 {α : Type} (d : D) (f g : D → α) : (Res.ret d).elim f g = f d := rfl
@[simp] theorem qce {α : Type} (d : D) (f g : D → α) : (Res.pan d).elim f g = g d := rfl
theorem bnd_eq {α β : Type} (f : α → Option β) (x : Option α) : bnd f x = x.bind f := by cases x <;> rfl
/-- a new variable -/
def allocO (cs : List D) (A : St) : Option (D × St) := some (.ref A.length 0, A ++ [.cells cs])
/-- a load's place is the same behind an effect -/
def sameAd (ad : D) (A A' : St) : Prop :=
  match ad with
  | .ref k _ => A[k]? = A'[k]?
  | _ => True
/-- a token laid by hint, if there is one -/
def tokO (h : List (Nat × Nat)) (d : D) (A : St) : Option (D × St) :=
  match h with
  | [] => some (d, A)
  | p :: r => some (tokD (p :: r) d A)
theorem tokO_eq (h : List (Nat × Nat)) (d : D) (A : St) : tokO h d A = some (tokD h d A) := by cases h <;> rfl
def Out.seqK (o : Out) (f : Env → St → Option β) (K : Out → Option β) : Option β :=
  match o.ex with
  | .normal => f o.env o.st
  | _ => K o
def opsK (X : Cx) (ops : Array Oper) : List Oper → Env → St → (Out → Option β) → Option β
  | [], e, A, K => K ⟨.normal, e, A⟩
  | o :: os, e, A, K => bnd (fun w =>
    match opK X.P o.op with
    | .pure => bnd (fun d => bnd (fun x => opsK X ops os { e with t := putD o.dst x.1 e.t } x.2 K) (tokO (hintOf X.h o.dst) d A)) (cond w (pureD X.P e.t o.op) (some undefD))
    | .world => bnd (fun r => bnd (fun x => opsK X ops os { e with t := putD o.dst x.1 e.t } x.2 K) (tokO (hintOf X.h o.dst) r.1 r.2)) (cond w (worldD X.P e.t o.op A) (some (undefD, A)))
    | .call => bnd (fun r =>
        r.1.elim (fun d => opsK X ops os { e with t := putD o.dst d e.t } r.2 K) (fun p => K ⟨.pan p, e, r.2⟩)) (cond w (callD X.call e.t o.op A) (some (.ret undefD, A)))
    | .defer => cond w (bnd (fun d => opsK X ops os { t := putD o.dst undefD e.t, df := d :: e.df } A K) (deferD e.t o.op)) none
    | .bad => none) (wantedD ops e.t o)
theorem opsK_eq (X : Cx) (ops : Array Oper) (K : Out → Option β) : ∀ (os : List Oper) (e : Env) (A : St), opsK X ops os e A K = (opsD X ops os e A).bind K
  | [], e, A => rfl
  | o :: os, e, A => by
    simp only [opsK, opsD, bnd_eq, tokO_eq, Option.bind_some, Option.bind_assoc]
    congr 1
    funext w
    cases opK X.P o.op with
    | pure => simp only [Option.bind_assoc]; congr 1; funext d; exact opsK_eq X ops K os _ _
    | world => simp only [Option.bind_assoc]; congr 1; funext d; exact opsK_eq X ops K os _ _
    | call =>
      simp only [Option.bind_assoc]
      congr 1
      funext r
      cases r.1 with
      | ret d => exact opsK_eq X ops K os _ _
      | pan p => rfl
    | defer =>
      cases w
      · rfl
      · simp only [cond_true, Option.bind_assoc]
        congr 1
        funext d
        exact opsK_eq X ops K os _ _
    | bad => rfl
noncomputable def traceK (X : Cx) (ops : Array Oper) : List Oper → Nat → List D → St → List TStep → (List TStep → List D → St → Option D → Option β) → Option β
  | [], _, e, A, acc, K => K acc e A none
  | o :: os, k, e, A, acc, K => bnd (fun w =>
    match drK X o.op with
    | .val => bnd (fun d => traceK X ops os k (putD o.dst d e) A (⟨w, d, .any, A, A⟩ :: acc) K) (cond w (valD X.P e o.op) (some undefD))
    | .load => bnd (fun d => traceK X ops os k (putD o.dst d e) A (⟨w, d, cond w (loadAddr e o.op) .any, A, A⟩ :: acc) K) (cond w ((worldD X.P e o.op A).map (·.1)) (some undefD))
    | .wait => bnd (fun d => traceK X ops os (k + 1) (putD o.dst d e) A (⟨w, d, cond w (.ref k 0) .any, A, A⟩ :: acc) K) (cond w (waitD X.P o.op k A) (some undefD))
    | .eff => match opK X.P o.op with
      | .call => bnd (fun x =>
          x.1.elim (fun d => traceK X ops os k (putD o.dst d e) x.2 (⟨w, d, .any, A, x.2⟩ :: acc) K)
            (fun p => K (⟨w, .any, .any, A, x.2⟩ :: acc) (putD o.dst .any e) x.2 (some p))) (cond w (callD X.call e o.op A) (some (.ret undefD, A)))
      | _ => bnd (fun x => traceK X ops os k (putD o.dst x.1 e) x.2 (⟨w, x.1, .any, A, x.2⟩ :: acc) K) (cond w (worldD X.P e o.op A) (some (undefD, A)))
    | .bad => none) (wantedD ops e o)
theorem bind_map' {α γ : Type} (x : Option α) (f : α → γ) (g : γ → Option β) : (x.map f).bind g = x.bind fun a => g (f a) := by cases x <;> rfl
def lastA (T : List TStep) (A : St) : St := (T.getLast?.map (·.A')).getD A
theorem lastA_cons (s : TStep) (T : List TStep) (A : St) : lastA (s :: T) A = lastA T s.A' := by
  unfold lastA
  cases T with
  | nil => rfl
  | cons a T => rw [List.getLast?_cons_cons]; cases h : (a :: T).getLast? with
    | none => simp at h
    | some y => rfl
theorem traceK_eq (X : Cx) (ops : Array Oper) (K : List TStep → List D → St → Option D → Option β) : ∀ (os : List Oper) (k : Nat) (e : List D) (A : St) (acc : List TStep),
    traceK X ops os k e A acc K = (traceD X ops os k e A).bind fun r => K (r.1.reverse ++ acc) (foldEnv (os.zip r.1) e) (lastA r.1 A) r.2
  | [], k, e, A, acc => by simp [traceK, traceD, foldEnv, lastA]
  | o :: os, k, e, A, acc => by
    simp only [traceK, traceD, bnd_eq, Option.bind_assoc]
    congr 1
    funext w
    cases drK X o.op with
    | val =>
      simp only [Option.bind_assoc]
      congr 1; funext d
      rw [traceK_eq X ops K os, bind_map']
      congr 1; funext r
      simp [lastA_cons, foldEnv]
    | load =>
      simp only [Option.bind_assoc]
      congr 1; funext d
      rw [traceK_eq X ops K os, bind_map']
      congr 1; funext r
      simp [lastA_cons, foldEnv]
    | wait =>
      simp only [Option.bind_assoc]
      congr 1; funext d
      rw [traceK_eq X ops K os, bind_map']
      congr 1; funext r
      simp [lastA_cons, foldEnv]
    | eff =>
      cases opK X.P o.op
      case call =>
        simp only [Option.bind_assoc]
        congr 1; funext x
        cases x.1 with
        | ret d =>
          simp only [Res.elim]
          rw [traceK_eq X ops K os, bind_map']
          congr 1; funext r
          simp [lastA_cons, foldEnv]
        | pan p => simp [Res.elim, foldEnv, lastA]
      all_goals
        simp only [Option.bind_assoc]
        congr 1; funext x
        rw [traceK_eq X ops K os, bind_map']
        congr 1; funext r
        simp [lastA_cons, foldEnv]
    | bad => rfl
noncomputable def drawKan (X : Cx) (ops : Array Oper) (an : List (List Nat)) (e : Env) (A : St) (K : Out → Option β) : Option β :=
  bnd (fun H => traceK X ops ops.toList A.length e.t (appH A H) [] fun T e' A' r =>
    cond (drawOk X ops an (r.map fun _ => T.length - 1))
      (guardP (allSame T.reverse (loosePairs X ops an))
        (match r with
          | none => K ⟨.normal, { e with t := e' }, A'⟩
          | some p => K ⟨.pan p, { e with t := forgetEnv ops.toList e.t }, A'⟩)) none) (headD X ops.toList)
noncomputable def drawK (X : Cx) (ops : Array Oper) (e : Env) (A : St) (K : Out → Option β) : Option β := drawKan X ops (ancAll ops) e A K
theorem guardP_bind {α : Type} (p : Prop) (x : Option α) (K : α → Option β) : (guardP p x).bind K = guardP p (x.bind K) := by
  unfold guardP; split <;> rfl
theorem drawK_eq (X : Cx) (ops : Array Oper) (e : Env) (A : St) (K : Out → Option β) : drawK X ops e A K = (drawD X ops e A).bind K := by
  unfold drawK drawKan drawD
  rw [bnd_eq, Option.bind_assoc]
  congr 1
  funext H
  rw [traceK_eq, Option.bind_assoc]
  congr 1
  funext r
  simp only [List.append_nil, List.length_reverse, List.reverse_reverse]
  cases drawOk X ops (ancAll ops) (r.2.map fun _ => r.1.length - 1) with
  | false => rfl
  | true =>
    simp only [cond_true]
    rw [guardP_bind]
    congr 1
    cases r.2 <;> rfl
/-- is a written-out table of what stands before each operation right? -/
def ancChk (an : List (List Nat)) : List Oper → Nat → Bool
  | [], j => an.length == j
  | o :: os, j => an[j]? == some (((bindsOn o) ++ (bindsOn o).flatMap (fun i => an.getD i [])).eraseDups) && (bindsOn o).all (fun i => decide (i < j)) && ancChk an os (j + 1)
theorem ancChk_fold (an : List (List Nat)) : ∀ (os : List Oper) (j : Nat), ancChk an os j = true →
    os.foldl (fun acc o => acc ++ [((bindsOn o) ++ (bindsOn o).flatMap (fun j => acc.getD j [])).eraseDups]) (an.take j) = an
  | [], j, h => by
    simp only [ancChk, beq_iff_eq] at h
    simp [List.take_of_length_le (Nat.le_of_eq h)]
  | o :: os, j, h => by
    simp only [ancChk, Bool.and_eq_true, beq_iff_eq, List.all_eq_true, decide_eq_true_eq] at h
    obtain ⟨⟨h1, h2⟩, h3⟩ := h
    rw [List.foldl_cons]
    have hf : (bindsOn o).flatMap (fun i => (an.take j).getD i []) = (bindsOn o).flatMap (fun i => an.getD i []) := by
      have : ∀ l : List Nat, (∀ i ∈ l, i < j) → l.flatMap (fun i => (an.take j).getD i []) = l.flatMap (fun i => an.getD i []) := by
        intro l
        induction l with
        | nil => intro _; rfl
        | cons a l ih =>
          intro hl
          rw [List.flatMap_cons, List.flatMap_cons, ih fun i hi => hl i (by simp [hi])]
          congr 1
          have := hl a (by simp)
          simp only [List.getD_eq_getElem?_getD, List.getElem?_take, if_pos this]
      exact this _ h2
    have ht : an.take j ++ [((bindsOn o) ++ (bindsOn o).flatMap (fun i => (an.take j).getD i [])).eraseDups] = an.take (j + 1) := by
      rw [hf, List.take_add_one, h1]
      rfl
    rw [ht]
    exact ancChk_fold an os (j + 1) h3
theorem ancChk_all (an : List (List Nat)) (ops : Array Oper) (h : ancChk an ops.toList 0 = true) : ancAll ops = an := by
  have := ancChk_fold an ops.toList 0 h
  simpa [ancAll] using this
noncomputable def drawKn (X : Cx) (an : List (List Nat)) (ops : Array Oper) (e : Env) (A : St) (K : Out → Option β) : Option β :=
  cond (ancChk an ops.toList 0) (drawKan X ops an e A K) (drawK X ops e A K)
theorem drawKn_eq (X : Cx) (an : List (List Nat)) (ops : Array Oper) (e : Env) (A : St) (K : Out → Option β) : drawKn X an ops e A K = (drawD X ops e A).bind K := by
  unfold drawKn
  cases h : ancChk an ops.toList 0 with
  | false => exact drawK_eq X ops e A K
  | true => rw [← ancChk_all an ops h]; exact drawK_eq X ops e A K
/-- how the run is to be read: which branches are read twice, and the tables of the drawn regions -/
structure KH where
  J : Operand → Code → Code → Bool
  anc : Nat → List (List Nat)
/-- hints as they are written down -/
def mkHints (tok : List (Nat × List (Nat × Nat))) (live : List (Nat × List Nat)) (keep : List Nat) (ret : RetK) (valApp : Bool := false) (waitAl : Bool := false) : Hints :=
  { tok := fun t => (tok.lookup t).getD [], live := fun r => live.lookup r, loopKeep := fun r => keep.contains r, ret, valApp, waitAl }
/-- does code never come to its end? -/
def abrupt : Code → Bool
  | .ret | .exit _ => true
  | .seq a b => abrupt a || abrupt b
  | .cond _ a b => abrupt a && abrupt b
  | _ => false
/-- how much stands in code -/
def bulk : Code → Nat
  | .region _ ops _ => ops.size
  | .seq a b | .cond _ a b => bulk a + bulk b
  | .block _ c | .scope c => bulk c
  | .loop c => bulk c + 100
  | _ => 0
/-- what stands behind a branch is read once for each side: always; never; or by the sides' text -/
def joinText : Operand → Code → Code → Bool := fun _ a b => abrupt a || abrupt b
/-- the slot that a branch hangs on is known in the branch -/
def refine (c : Operand) (b : Bool) (e : Env) : Env :=
  match c with
  | .tmp t => { e with t := e.t.set t (.bool b) }
  | _ => e
theorem refine_eq (c : Operand) (b : Bool) (e : Env) (h : (evalO e.t c).bool? = some b) : refine c b e = e := by
  unfold refine
  split
  · rename_i t
    simp only [evalO] at h
    cases e with
    | mk l df =>
      simp only [Env.mk.injEq, and_true]
      simp only at h
      apply List.ext_getElem?
      intro i
      rw [List.getElem?_set]
      split
      · rename_i hti
        subst hti
        split
        · rename_i hl
          rw [List.getElem?_eq_getElem hl]
          rw [List.getD_eq_getElem?_getD, List.getElem?_eq_getElem hl] at h
          simp only [Option.getD_some] at h
          congr 1
          revert h
          cases l[t] <;> simp [D.bool?]
          intro h; exact h.symm
        · rename_i hl
          rw [List.getElem?_eq_none (by omega)]
      · rfl
  · rfl
/-! rounds, with what comes behind -/
def iterKN : Nat → (Env → St → Option ((Env × St) ⊕ β)) → Env → St → Option β
  | 0, _, _, _ => none
  | n + 1, s, e, A => (s e A).bind fun r => r.elim (fun p => iterKN n s p.1 p.2) some
noncomputable def iterK (s : Env → St → Option ((Env × St) ⊕ β)) (e : Env) (A : St) : Option β := limO fun k => iterKN k s e A
theorem iterKN_up (s : Env → St → Option ((Env × St) ⊕ β)) : ∀ (n : Nat) (e : Env) (A : St) (r : β), iterKN n s e A = some r → iterKN (n + 1) s e A = some r
  | 0, e, A, r, h => by simp [iterKN] at h
  | n + 1, e, A, r, h => by
    rw [iterKN] at h ⊢
    simp only [Option.bind_eq_some_iff] at h ⊢
    obtain ⟨x, h1, h2⟩ := h
    refine ⟨x, h1, ?_⟩
    cases x with
    | inl p => exact iterKN_up s n _ _ _ h2
    | inr b => exact h2
theorem iterK_lim (s : Env → St → Option ((Env × St) ⊕ β)) (e : Env) (A : St) : LimOf (fun k => iterKN k s e A) (iterK s e A) :=
  LimOf.of_mono fun j r h => iterKN_up s j e A r h
/-- a loop's equation -/
theorem qd6 (s : Env → St → Option ((Env × St) ⊕ β)) (e : Env) (A : St) : iterK s e A = (s e A).bind fun r => r.elim (fun p => iterK s p.1 p.2) some := by
  have h1 : LimOf (fun k => iterKN (k + 1) s e A) (iterK s e A) := by
    refine ⟨fun j r h => (iterK_lim s e A).mono _ r h, fun r => ?_⟩
    rw [(iterK_lim s e A).lim r]
    exact ⟨fun ⟨j, h⟩ => ⟨j, (iterK_lim s e A).mono j r h⟩, fun ⟨j, h⟩ => ⟨j + 1, h⟩⟩
  refine h1.unique ?_
  simp only [iterKN]
  refine (LimOf.const (s e A)).bind fun x => ?_
  cases x with
  | inl p => exact iterK_lim s _ _
  | inr b => exact LimOf.const _
theorem iterKN_eq (s : Env → St → Option Out) (K : Out → Option β) : ∀ (n : Nat) (e : Env) (A : St), (iterN n s e A).bind K =
    iterKN n (fun e A => (s e A).bind fun o => o.seqK (fun e A => some (.inl (e, A))) fun o => (K o).map .inr) e A
  | 0, e, A => rfl
  | n + 1, e, A => by
    simp only [iterN, iterKN, Option.bind_assoc]
    congr 1
    funext o
    unfold Out.seqK
    cases hx : o.ex with
    | normal => exact iterKN_eq s K n _ _
    | exit i => simp only [Option.bind_some]; cases K o <;> rfl
    | ret => simp only [Option.bind_some]; cases K o <;> rfl
    | pan d => simp only [Option.bind_some]; cases K o <;> rfl
theorem iterL_bind (s : Env → St → Option Out) (K : Out → Option β) (e : Env) (A : St) : (iterL s e A).bind K =
    iterK (fun e A => (s e A).bind fun o => o.seqK (fun e A => some (.inl (e, A))) fun o => (K o).map .inr) e A := by
  have h1 := (iterL_lim s e A).bind (G := fun _ => K) fun o => LimOf.const (K o)
  have : (fun j => (iterN j s e A).bind K) = fun j => iterKN j (fun e A => (s e A).bind fun o => o.seqK (fun e A => some (.inl (e, A))) fun o => (K o).map .inr) e A :=
    funext fun j => iterKN_eq s K j e A
  rw [this] at h1
  exact h1.unique (iterK_lim _ _ _)
def joinK (K : Out → Option β) (r : (Env × St) ⊕ β) : Option β := r.elim (fun p => K ⟨.normal, p.1, p.2⟩) some
theorem seqK_join (o : Out) (K : Out → Option β) : (o.seqK (fun e A => some (.inl (e, A))) fun o => (K o).map .inr).bind (joinK K) = K o := by
  unfold Out.seqK
  cases o with
  | mk x e A => cases x <;> first | rfl | (simp only []; generalize K _ = r; cases r <;> rfl)
noncomputable def codeK (X : Cx) (J : KH) : {β : Type} → Code → Env → St → (Out → Option β) → Option β
  | _, .skip, e, A, K => K ⟨.normal, e, A⟩
  | _, .label _, e, A, K => K ⟨.normal, e, A⟩
  | _, .region id ops draw, e, A, K => cond draw (drawKn X (J.anc id) ops e A K) (opsK X ops ops.toList e A K)
  | _, .seq a b, e, A, K => codeK X J a e A fun o => o.seqK (fun e A => codeK X J b (expand X.n e) A K) K
  | _, .cond c a b, e, A, K => bnd (fun t => cond (J.J c a b) (cond t (codeK X J a (refine c true e) A K) (codeK X J b (refine c false e) A K))
      (bnd (joinK K) (cond t (codeK X J a (refine c true e) A fun o => o.seqK (fun e A => some (.inl (e, A))) fun o => (K o).map .inr)
        (codeK X J b (refine c false e) A fun o => o.seqK (fun e A => some (.inl (e, A))) fun o => (K o).map .inr)))) (evalO e.t c).bool?
  | _, .block id c, e, A, K => codeK X J c e A fun o => K (o.block id)
  | _, .loop c, e, A, K => iterK (fun e A => codeK X J c (expand X.n e) A fun o => o.seqK
        (fun e' A' => cond (X.h.loopKeep (loopId c)) (some (.inl (mask X.n (X.h.live (loopId c)) e', A')))
          (guardP (Kept A A') (some (.inl ((mask X.n (X.h.live (loopId c)) e').shut A.length, A'.take A.length)))))
        fun o => (K o).map .inr) (mask X.n (X.h.live (loopId c)) e) A
  | _, .exit id, e, A, K => K ⟨.exit id, e, A⟩
  | _, .ret, e, A, K => K ⟨.ret, e, A⟩
  | _, _, _, _, _ => none
theorem codeK_eq (X : Cx) (J : KH) (hX : X.it = iterL) : ∀ (c : Code) {β : Type} (e : Env) (A : St) (K : Out → Option β), codeK X J c e A K = (codeD X c e A).bind K := by
  intro c
  induction c with
  | skip => intro β e A K; rfl
  | label l => intro β e A K; rfl
  | exit id => intro β e A K; rfl
  | ret => intro β e A K; rfl
  | region id ops draw =>
    intro β e A K
    simp only [codeK, codeD]
    cases draw
    · exact opsK_eq X ops K _ _ _
    · exact drawKn_eq X _ ops e A K
  | seq a b iha ihb =>
    intro β e A K
    simp only [codeK, codeD]
    rw [iha, Option.bind_assoc]
    congr 1
    funext o
    unfold Out.seqK Out.seq
    cases hx : o.ex with
    | normal => exact ihb _ _ K
    | exit i => simp only [Option.bind_some]; congr 1; cases o; simp at hx; subst hx; rfl
    | ret => simp only [Option.bind_some]; congr 1; cases o; simp at hx; subst hx; rfl
    | pan d => simp only [Option.bind_some]; congr 1; cases o; simp at hx; subst hx; rfl
  | cond c a b iha ihb =>
    intro β e A K
    simp only [codeK, codeD, bnd_eq]
    cases hc : (evalO e.t c).bool? with
    | none => rfl
    | some t =>
      simp only [Option.bind_some]
      simp only [iha, ihb]
      cases t
      · rw [refine_eq c false e hc]
        cases J.J c a b
        · simp only [cond_false]; rw [Option.bind_assoc]; congr 1; funext o; exact seqK_join o K
        · rfl
      · rw [refine_eq c true e hc]
        cases J.J c a b
        · simp only [cond_false, cond_true]; rw [Option.bind_assoc]; congr 1; funext o; exact seqK_join o K
        · rfl
  | block id c ih =>
    intro β e A K
    simp only [codeK, codeD]
    rw [ih, bind_map']
  | loop c ih =>
    intro β e A K
    simp only [codeK, codeD]
    rw [hX, iterL_bind]
    congr 1
    funext e A
    rw [ih]
    unfold stepD
    rw [Option.bind_assoc]
    congr 1
    funext o
    unfold Out.norm Out.seqK
    cases hx : o.ex with
    | normal =>
      simp only
      cases X.h.loopKeep (loopId c)
      · simp only [cond_false]; rw [guardP_bind]; rfl
      · rfl
    | exit i => simp only [Option.bind_some, hx]
    | ret => simp only [Option.bind_some, hx]
    | pan d => simp only [Option.bind_some, hx]
  | rangeFunc f ps x y => intro β e A K; rfl
  | scope c => intro β e A K; rfl
  | goto l => intro β e A K; rfl
  | refuse s => intro β e A K; rfl
noncomputable def funK (X : Cx) (J : KH) (dcall : D → List D → Option D → St → Option (Option D × St)) (fn : Func) (args : List D) (A : St) : ORes :=
  cond (decide (args.length ≤ fn.ntmps) && X.n == fn.ntmps)
    (fn.body.bind fun c => codeK X J c (env0 fn args) A fun o =>
      bnd (fun r => leaveD X.h.ret A r.1 r.2) (o.leave fun e p A' => leavesD dcall (fun A' => (resultsD X.P e.t A' fn.results.toList).map packD) e.df p A')) none
theorem funK_eq (X : Cx) (J : KH) (dcall : D → List D → Option D → St → Option (Option D × St)) (fn : Func) (args : List D) (A : St) (hX : X.it = iterL) : funK X J dcall fn args A = funD X dcall fn args A := by
  unfold funK funD
  simp only [bnd_eq]
  congr 1
  congr 1
  funext c
  exact codeK_eq X J hX c _ A _
/-- what a deferred call comes to -/
noncomputable def Dcall (P : Program) (H : Ext0) : D → List D → Option D → St → Option (Option D × St) := dcallD P H (Run P H) iterL
noncomputable def bodyK (P : Program) (H : Ext0) (J : KH) (call : FuncId → List D → St → ORes) (dcall : D → List D → Option D → St → Option (Option D × St)) (f : FuncId) (args : List D) (A : St) : ORes :=
  match H.ext f with
  | some x => x args A
  | none => (P.funcs[f]?).bind fun fn => cond (fnOk fn) (funK (mkCx P H call iterL f fn) J dcall fn args A) none
/-- THE EQUATION, as it is read off -/
theorem Run_eqK (P : Program) (H : Ext0) (J : KH) (f : FuncId) (args : List D) (A : St) : Run P H f args A = bodyK P H J (Run P H) (Dcall P H) f args A := by
  rw [Run_eq]
  unfold bodyD bodyK Dcall
  cases H.ext f with
  | some x => rfl
  | none =>
    simp only
    congr 1
    funext fn
    congr 1
    exact (funK_eq _ _ _ _ _ _ rfl).symm
/-! deferred calls, with what comes behind handed in -/
def SOut.seqK (o : SOut) (f : Env → PS → St → Option β) (K : SOut → Option β) : Option β :=
  match o.ex with
  | .normal => f o.env o.ps o.st
  | _ => K o
def SOut.leaveK (o : SOut) (f : Env → PS → St → Option β) : Option β :=
  match o.ex with
  | .normal | .ret => f o.env o.ps o.st
  | _ => none
def opsSK (X : Cx) (ops : Array Oper) : List Oper → Env → PS → St → (SOut → Option β) → Option β
  | [], e, ps, A, K => K ⟨.normal, e, ps, A⟩
  | o :: os, e, ps, A, K => cond (recOp o.op)
      (cond o.guard.isNone (opsSK X ops os { e with t := putD o.dst (recoverPS ps).1 e.t } (recoverPS ps).2 A K) none)
      (opsK X ops [o] e A fun r => r.seqK (fun e A => opsSK X ops os e ps A K) fun r => K ⟨r.ex, r.env, ps, r.st⟩)
theorem opsSK_eq (X : Cx) (ops : Array Oper) (K : SOut → Option β) : ∀ (os : List Oper) (e : Env) (ps : PS) (A : St), opsSK X ops os e ps A K = (opsSD X ops os e ps A).bind K
  | [], e, ps, A => rfl
  | o :: os, e, ps, A => by
    simp only [opsSK, opsSD]
    cases recOp o.op
    · simp only [cond_false]
      rw [opsK_eq, Option.bind_assoc]
      congr 1
      funext r
      unfold Out.seqK
      cases hx : r.ex with
      | normal => exact opsSK_eq X ops K os _ _ _
      | exit i => simp only [hx, Option.bind_some]
      | ret => simp only [hx, Option.bind_some]
      | pan d => simp only [hx, Option.bind_some]
    · simp only [cond_true]
      cases o.guard.isNone
      · rfl
      · exact opsSK_eq X ops K os _ _ _
noncomputable def codeSK (X : Cx) (J : KH) : Code → Env → PS → St → (SOut → Option β) → Option β
  | .seq a b, e, ps, A, K => codeSK X J a e ps A fun o => o.seqK (fun e ps A => codeSK X J b (expand X.n e) ps A K) K
  | .cond c a b, e, ps, A, K => bnd (fun t => cond t (codeSK X J a (refine c true e) ps A K) (codeSK X J b (refine c false e) ps A K)) (evalO e.t c).bool?
  | .region id ops draw, e, ps, A, K => cond (ops.any fun o => recOp o.op) (cond draw none (opsSK X ops ops.toList e ps A K))
      (codeK X J (.region id ops draw) e A fun o => K ⟨o.ex, o.env, ps, o.st⟩)
  | c, e, ps, A, K => codeK X J c e A fun o => K ⟨o.ex, o.env, ps, o.st⟩
theorem codeSK_eq (X : Cx) (J : KH) (hX : X.it = iterL) (c : Code) : ∀ (e : Env) (ps : PS) (A : St) (K : SOut → Option β), codeSK X J c e ps A K = (codeSD X c e ps A).bind K := by
  have hc : ∀ (c : Code) (e : Env) (ps : PS) (A : St) (K : SOut → Option β), codeK X J c e A (fun o => K ⟨o.ex, o.env, ps, o.st⟩) = ((codeD X c e A).map fun o => (⟨o.ex, o.env, ps, o.st⟩ : SOut)).bind K := by
    intro c e ps A K
    rw [codeK_eq X J hX, bind_map']
  induction c with
  | seq a b iha ihb =>
    intro e ps A K
    simp only [codeSK, codeSD]
    rw [iha, Option.bind_assoc]
    congr 1
    funext o
    unfold SOut.seqK SOut.seq
    cases hx : o.ex with
    | normal => exact ihb _ _ _ K
    | exit i => simp only [Option.bind_some]; congr 1; cases o; simp at hx; subst hx; rfl
    | ret => simp only [Option.bind_some]; congr 1; cases o; simp at hx; subst hx; rfl
    | pan d => simp only [Option.bind_some]; congr 1; cases o; simp at hx; subst hx; rfl
  | cond c a b iha ihb =>
    intro e ps A K
    simp only [codeSK, codeSD, bnd_eq]
    cases h : (evalO e.t c).bool? with
    | none => rfl
    | some t =>
      simp only [Option.bind_some]
      cases t
      · rw [refine_eq c false e h]; exact ihb _ _ _ K
      · rw [refine_eq c true e h]; exact iha _ _ _ K
  | region id ops draw =>
    intro e ps A K
    simp only [codeSK, codeSD]
    cases ops.any fun o => recOp o.op
    · simp only [cond_false]; exact hc _ _ _ _ K
    · cases draw
      · exact opsSK_eq X ops K _ _ _ _
      · rfl
  | _ => intro e ps A K; simp only [codeSK, codeSD]; exact hc _ _ _ _ K
noncomputable def defK (X : Cx) (J : KH) (fn : Func) (args : List D) (p : Option D) (A : St) : Option (Option D × St) :=
  cond (decide (args.length ≤ fn.ntmps) && X.n == fn.ntmps)
    (fn.body.bind fun c => codeSK X J c (env0 fn args) (p.map fun d => (d, false)) A fun o => o.leaveK fun e ps A' =>
      cond e.df.isEmpty (bnd (fun _ => guardP (Kept A A') (some ((afterPS ps).map (D.shut A.length), A'.take A.length))) (resultsD X.P e.t A' fn.results.toList)) none) none
theorem defK_eq (X : Cx) (J : KH) (fn : Func) (args : List D) (p : Option D) (A : St) (hX : X.it = iterL) : defK X J fn args p A = defD X fn args p A := by
  unfold defK defD
  congr 1
  congr 1
  funext c
  rw [codeSK_eq X J hX]
  congr 1
  funext o
  unfold SOut.leaveK
  cases o.ex <;> simp only [bnd_eq]
/-- a deferred call of a function, as it is read off -/
noncomputable def dbodyK (P : Program) (H : Ext0) (J : KH) (call : FuncId → List D → St → ORes) (g : FuncId) (args : List D) (p : Option D) (A : St) : Option (Option D × St) :=
  (P.funcs[g]?).bind fun fn => cond (fnOk fn) (defK (mkCx P H call iterL g fn) J fn args p A) none
theorem Dcall_eqK (P : Program) (H : Ext0) (J : KH) (g : FuncId) (first cap args : List D) (p : Option D) (A : St) :
    Dcall P H (.fn (.func g) first cap) args p A = dbodyK P H J (Run P H) g (first ++ args ++ cap) p A := by
  unfold Dcall dcallD dbodyK
  simp only
  congr 1
  funext fn
  congr 1
  exact (defK_eq _ _ _ _ _ _ rfl).symm
end Go.Vm
