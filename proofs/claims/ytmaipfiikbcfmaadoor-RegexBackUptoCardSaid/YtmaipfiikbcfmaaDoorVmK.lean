/- The same run with what comes behind handed in: its equations are read off a function's text. -/
import Derived.Test.YtmaipfiikbcfmaaDoorVmLim
import Derived.Test.YtmaipfiikbcfmaaDoorVmDec
set_option linter.all false
namespace Go.Vm
open Go.RowKit
set_option linter.unusedVariables false

variable {β : Type}
/-- so many slots that hold nothing known -/
def anys : Nat → List D → List D
  | 0, l => l
  | n + 1, l => .any :: anys n l
/-- slots, few of which are known: how many unknown ones stand ahead of each -/
def sp : List (Nat × D) → Nat → List D
  | [], t => anys t []
  | (g, d) :: r, t => anys g (d :: sp r t)
/-- what comes behind, and what it waits for -/
def bnd {α β : Type} (f : α → Option β) (x : Option α) : Option β :=
  match x with
  | none => none
  | some a => f a
/-- the same, in the order in which it is read -/
def bn {α β : Type} (x : Option α) (f : α → Option β) : Option β := bnd f x
def ifb {β : Type} (c : Bool) (x y : β) : β := cond c x y
@[simp] theorem bn_some {α β : Type} (a : α) (f : α → Option β) : bn (some a) f = f a := rfl
@[simp] theorem bn_none {α β : Type} (f : α → Option β) : bn none f = none := rfl
@[simp] theorem qa8 {β : Type} (x y : β) : ifb true x y = x := rfl
@[simp] theorem qaw {β : Type} (x y : β) : ifb false x y = y := rfl
@[congr] theorem bn_congr {α β : Type} {x y : Option α} {f : α → Option β} (h : x = y) : bn x f = bn y f := by rw [h]
@[congr] theorem ifb_congr {β : Type} {c d : Bool} {x y : β} (h : c = d) : ifb c x y = ifb d x y := by rw [h]
@[congr] theorem guardP_congr {α : Type} {p q : Prop} {x : Option α} (h : p = q) : guardP p x = guardP q x := by rw [h]
@[simp] theorem qac {α : Type} (x : Option α) : guardP True x = x := if_pos trivial
@[congr] theorem elim_congr {α : Type} {r s : Res} {f g : D → α} (h : r = s) : r.elim f g = s.elim f g := by rw [h]
@[simp] theorem elim_ret {α : Type} (d : D) (f g : D → α) : (Res.ret d).elim f g = f d := rfl
@[simp] theorem elim_pan {α : Type} (d : D) (f g : D → α) : (Res.pan d).elim f g = g d := rfl
theorem bnd_eq {α β : Type} (f : α → Option β) (x : Option α) : bnd f x = x.bind f := by cases x <;> rfl
/-- what a temporary holds -/
def Env.g (e : Env) (k : Nat) : D := e.t.getD k .any
/-- the same as Option.map, in the order in which it is read -/
def mp {α β : Type} (x : Option α) (f : α → β) : Option β := x.map f
def n64 (n : Int) : D := .int .i64 n
abbrev CallT := FuncId → List D → St → ORes
abbrev DcallT := D → List D → Option D → St → Option (Option D × St)
/-- a new variable -/
def allocO (cs : List D) (A : St) : Option (D × St) := some (.ref A.length 0, A ++ [.cells cs])
/-- a load's place is the same behind an effect -/
def sameAd (ad : D) (A A' : St) : Prop :=
  match ad with
  | .ref k _ => A[k]? = A'[k]?
  | _ => True
/-- a token laid by hint, if there is one -/
def tokO (h : List (Nat × Nat)) (d : D) (A : St) : Option (D × St) :=
  match h with
  | [] => some (d, A)
  | p :: r => some (tokD (p :: r) d A)
theorem tokO_eq (h : List (Nat × Nat)) (d : D) (A : St) : tokO h d A = some (tokD h d A) := by cases h <;> rfl
def Out.seqK (o : Out) (f : Env → St → Option β) (K : Out → Option β) : Option β :=
  match o.ex with
  | .normal => f o.env o.st
  | _ => K o
def opsK (X : Cx) (ops : Array Oper) : List Oper → Env → St → (Out → Option β) → Option β
  | [], e, A, K => K ⟨.normal, e, A⟩
  | o :: os, e, A, K => bnd (fun w =>
    match opK X.P o.op with
    | .pure => bnd (fun d => bnd (fun x => opsK X ops os { e with t := putD o.dst x.1 e.t } x.2 K) (tokO (hintOf X.h o.dst) d A)) (cond w (pureD X.P e.t o.op) (some undefD))
    | .world => bnd (fun r => bnd (fun x => opsK X ops os { e with t := putD o.dst x.1 e.t } x.2 K) (tokO (hintOf X.h o.dst) r.1 r.2)) (cond w (worldD X.P e.t o.op A) (some (undefD, A)))
    | .call => bnd (fun r =>
        r.1.elim (fun d => opsK X ops os { e with t := putD o.dst d e.t } r.2 K) (fun p => K ⟨.pan p, e, r.2⟩)) (cond w (callD X.call e.t o.op A) (some (.ret undefD, A)))
    | .defer => cond w (bnd (fun d => opsK X ops os { t := putD o.dst undefD e.t, df := d :: e.df } A K) (deferD e.t o.op)) none
    | .bad => none) (wantedD ops e.t o)
theorem opsK_eq (X : Cx) (ops : Array Oper) (K : Out → Option β) : ∀ (os : List Oper) (e : Env) (A : St), opsK X ops os e A K = (opsD X ops os e A).bind K
  | [], e, A => rfl
  | o :: os, e, A => by
    simp only [opsK, opsD, bnd_eq, tokO_eq, Option.bind_some, Option.bind_assoc]
    congr 1
    funext w
    cases opK X.P o.op with
    | pure => simp only [Option.bind_assoc]; congr 1; funext d; exact opsK_eq X ops K os _ _
    | world => simp only [Option.bind_assoc]; congr 1; funext d; exact opsK_eq X ops K os _ _
    | call =>
      simp only [Option.bind_assoc]
      congr 1
      funext r
      cases r.1 with
      | ret d => exact opsK_eq X ops K os _ _
      | pan p => rfl
    | defer =>
      cases w
      · rfl
      · simp only [cond_true, Option.bind_assoc]
        congr 1
        funext d
        exact opsK_eq X ops K os _ _
    | bad => rfl
/-- how the run is to be read: which branches are read twice, and the tables of the drawn regions -/
structure KH where
  J : Operand → Code → Code → Bool
  anc : Nat → List (List Nat)
/-- hints as they are written down -/
def mkHints (tok : List (Nat × List (Nat × Nat))) (live : List (Nat × List Nat)) (keep : List Nat) (ret : RetK) (valApp : Bool := false) (waitAl : Bool := false) (canA : Bool := false) (liveJ : List (Nat × List Nat) := []) : Hints :=
  { tok := fun t => (tok.lookup t).getD [], live := fun r => live.lookup r, loopKeep := fun r => keep.contains r, ret, valApp, waitAl, canA, liveJ := fun r => liveJ.lookup r }
/-- does code never come to its end? -/
def abrupt : Code → Bool
  | .ret | .exit _ => true
  | .seq a b => abrupt a || abrupt b
  | .cond _ a b => abrupt a && abrupt b
  | _ => false
/-- how much stands in code -/
def bulk : Code → Nat
  | .region _ ops _ => ops.size
  | .seq a b | .cond _ a b => bulk a + bulk b
  | .block _ c | .scope c => bulk c
  | .loop c => bulk c + 100
  | _ => 0
/-- what stands behind a branch is read once for each side: always; never; or by the sides' text -/
def joinText : Operand → Code → Code → Bool := fun _ a b => abrupt a || abrupt b
/-- the slot that a branch hangs on is known in the branch -/
def refine (c : Operand) (b : Bool) (e : Env) : Env :=
  match c with
  | .tmp t => { e with t := e.t.set t (.bool b) }
  | _ => e
theorem refine_eq (c : Operand) (b : Bool) (e : Env) (h : (evalO e.t c).bool? = some b) : refine c b e = e := by
  unfold refine
  split
  · rename_i t
    simp only [evalO] at h
    cases e with
    | mk l df =>
      simp only [Env.mk.injEq, and_true]
      simp only at h
      apply List.ext_getElem?
      intro i
      rw [List.getElem?_set]
      split
      · rename_i hti
        subst hti
        split
        · rename_i hl
          rw [List.getElem?_eq_getElem hl]
          rw [List.getD_eq_getElem?_getD, List.getElem?_eq_getElem hl] at h
          simp only [Option.getD_some] at h
          congr 1
          revert h
          cases l[t] <;> simp [D.bool?]
          intro h; exact h.symm
        · rename_i hl
          rw [List.getElem?_eq_none (by omega)]
      · rfl
  · rfl
/-! rounds, with what comes behind -/
def iterKN : Nat → (Env → St → Option ((Env × St) ⊕ β)) → Env → St → Option β
  | 0, _, _, _ => none
  | n + 1, s, e, A => (s e A).bind fun r => r.elim (fun p => iterKN n s p.1 p.2) some
noncomputable def iterK (s : Env → St → Option ((Env × St) ⊕ β)) (e : Env) (A : St) : Option β := limO fun k => iterKN k s e A
theorem iterKN_up (s : Env → St → Option ((Env × St) ⊕ β)) : ∀ (n : Nat) (e : Env) (A : St) (r : β), iterKN n s e A = some r → iterKN (n + 1) s e A = some r
  | 0, e, A, r, h => by simp [iterKN] at h
  | n + 1, e, A, r, h => by
    rw [iterKN] at h ⊢
    simp only [Option.bind_eq_some_iff] at h ⊢
    obtain ⟨x, h1, h2⟩ := h
    refine ⟨x, h1, ?_⟩
    cases x with
    | inl p => exact iterKN_up s n _ _ _ h2
    | inr b => exact h2
theorem iterK_lim (s : Env → St → Option ((Env × St) ⊕ β)) (e : Env) (A : St) : LimOf (fun k => iterKN k s e A) (iterK s e A) :=
  LimOf.of_mono fun j r h => iterKN_up s j e A r h
/-- a loop's equation -/
theorem iterK_eq (s : Env → St → Option ((Env × St) ⊕ β)) (e : Env) (A : St) : iterK s e A = (s e A).bind fun r => r.elim (fun p => iterK s p.1 p.2) some := by
  have h1 : LimOf (fun k => iterKN (k + 1) s e A) (iterK s e A) := by
    refine ⟨fun j r h => (iterK_lim s e A).mono _ r h, fun r => ?_⟩
    rw [(iterK_lim s e A).lim r]
    exact ⟨fun ⟨j, h⟩ => ⟨j, (iterK_lim s e A).mono j r h⟩, fun ⟨j, h⟩ => ⟨j + 1, h⟩⟩
  refine h1.unique ?_
  simp only [iterKN]
  refine (LimOf.const (s e A)).bind fun x => ?_
  cases x with
  | inl p => exact iterK_lim s _ _
  | inr b => exact LimOf.const _
theorem iterKN_eq (s : Env → St → Option Out) (K : Out → Option β) : ∀ (n : Nat) (e : Env) (A : St), (iterN n s e A).bind K =
    iterKN n (fun e A => (s e A).bind fun o => o.seqK (fun e A => some (.inl (e, A))) fun o => (K o).map .inr) e A
  | 0, e, A => rfl
  | n + 1, e, A => by
    simp only [iterN, iterKN, Option.bind_assoc]
    congr 1
    funext o
    unfold Out.seqK
    cases hx : o.ex with
    | normal => exact iterKN_eq s K n _ _
    | exit i => simp only [Option.bind_some]; cases K o <;> rfl
    | ret => simp only [Option.bind_some]; cases K o <;> rfl
    | pan d => simp only [Option.bind_some]; cases K o <;> rfl
theorem iterL_bind (s : Env → St → Option Out) (K : Out → Option β) (e : Env) (A : St) : (iterL s e A).bind K =
    iterK (fun e A => (s e A).bind fun o => o.seqK (fun e A => some (.inl (e, A))) fun o => (K o).map .inr) e A := by
  have h1 := (iterL_lim s e A).bind (G := fun _ => K) fun o => LimOf.const (K o)
  have : (fun j => (iterN j s e A).bind K) = fun j => iterKN j (fun e A => (s e A).bind fun o => o.seqK (fun e A => some (.inl (e, A))) fun o => (K o).map .inr) e A :=
    funext fun j => iterKN_eq s K j e A
  rw [this] at h1
  exact h1.unique (iterK_lim _ _ _)
/-- how loops go on, and how what is to be known is known: by choice, or reckoned -/
structure Mode where
  it : {β : Type} → (Env → St → Option ((Env × St) ⊕ β)) → Env → St → Option β
  gk : {α : Type} → St → St → Option α → Option α
  gs : {α : Type} → Prop → Bool → Option α → Option α
  gw : List D → Nat → St → Option D
  cl : St → St → Option St
noncomputable def mL : Mode := ⟨iterK, fun A A' x => guardP (Kept A A') x, fun p _ x => guardP p x, waitO, fun A A' => some (closeSt A A')⟩
@[simp] theorem mL_it (s : Env → St → Option ((Env × St) ⊕ β)) (e : Env) (A : St) : mL.it s e A = iterK s e A := rfl
@[simp] theorem mL_gk {α : Type} (A A' : St) (x : Option α) : mL.gk A A' x = guardP (Kept A A') x := rfl
@[simp] theorem mL_gs {α : Type} (p : Prop) (b : Bool) (x : Option α) : mL.gs p b x = guardP p x := rfl
@[simp] theorem mL_gw (cs : List D) (k : Nat) (A : St) : mL.gw cs k A = waitO cs k A := rfl
@[simp] theorem mL_cl (A A' : St) : mL.cl A A' = some (closeSt A A') := rfl
def waitM (M : Mode) (P : Program) (op : Op) (k : Nat) (A : St) : Option D := (zeroCs P op).bind fun cs => M.gw cs k A
def leaveM (M : Mode) (k : RetK) (A : St) (r : Res) (A' : St) : ORes :=
  match k with
  | .keep => some (r, A')
  | .trunc => M.gk A A' (some (r.shut A.length, A'.take A.length))
  | .can => M.gk A A' (some ((r.shut A.length).canon, A'.take A.length))
  | .own => M.gk A A' (match r with
      | .ret (.sl (.own c s) es ds) =>
        if c < A.length then some (r.shut A.length, A'.take A.length)
        else (match A'[c]? with
          | some (.tok m) => some (.ret (.sl (.own A.length s) es (D.shutL A.length ds)), A'.take A.length ++ [.tok m])
          | _ => none)
      | r => some (r.shut A.length, A'.take A.length))
@[simp] theorem leaveM_mL (k : RetK) (A : St) (r : Res) (A' : St) : leaveM mL k A r A' = leaveD k A r A' := by cases k <;> rfl
/-- a load's place is the same behind an effect: reckoned -/
def slotEqB : Option Slot → Option Slot → Bool
  | some (.cells a), some (.cells b) => D.eqbL a b
  | none, none => true
  | _, _ => false
theorem slotEqB_eq {x y : Option Slot} (h : slotEqB x y = true) : x = y := by
  unfold slotEqB at h
  split at h
  · rw [D.eqbL_eq _ _ h]
  · rfl
  · cases h
def sameAdB (ad : D) (A A' : St) : Bool :=
  match ad with
  | .ref k _ => slotEqB A[k]? A'[k]?
  | _ => true
def sameAtB (T : List TStep) (p : Nat × Nat) : Bool :=
  match T[p.1]?, T[p.2]? with
  | some l, some m => sameAdB l.ad m.A m.A'
  | _, _ => true
def allSameB (T : List TStep) : List (Nat × Nat) → Bool
  | [] => true
  | p :: r => sameAtB T p && allSameB T r
theorem sameAtB_eq {T : List TStep} {p : Nat × Nat} (h : sameAtB T p = true) : sameAt T p := by
  unfold sameAtB at h
  unfold sameAt
  split
  · rename_i l m h1 h2
    rw [h1, h2] at h
    simp only [sameAdB] at h
    split
    · rename_i k o hl
      rw [hl] at h
      exact slotEqB_eq h
    · trivial
  · trivial
theorem allSameB_eq {T : List TStep} : ∀ {l : List (Nat × Nat)}, allSameB T l = true → allSame T l
  | [], _ => trivial
  | p :: r, h => by
    simp only [allSameB, Bool.and_eq_true] at h
    exact ⟨sameAtB_eq h.1, allSameB_eq h.2⟩
def traceK (M : Mode) (X : Cx) (ops : Array Oper) : List Oper → Nat → List D → St → List TStep → (List TStep → List D → St → Option D → Option β) → Option β
  | [], _, e, A, acc, K => K acc e A none
  | o :: os, k, e, A, acc, K => bnd (fun w =>
    match drK X o.op with
    | .val => bnd (fun d => traceK M X ops os k (putD o.dst d e) A (⟨w, d, .any, A, A⟩ :: acc) K) (cond w (valD X.P e o.op) (some undefD))
    | .load => bnd (fun d => traceK M X ops os k (putD o.dst d e) A (⟨w, d, cond w (loadAddr e o.op) .any, A, A⟩ :: acc) K) (cond w ((worldD X.P e o.op A).map (·.1)) (some undefD))
    | .wait => bnd (fun d => traceK M X ops os (k + 1) (putD o.dst d e) A (⟨w, d, cond w (.ref k 0) .any, A, A⟩ :: acc) K) (cond w (waitM M X.P o.op k A) (some undefD))
    | .eff => match opK X.P o.op with
      | .call => bnd (fun x =>
          x.1.elim (fun d => traceK M X ops os k (putD o.dst d e) x.2 (⟨w, d, .any, A, x.2⟩ :: acc) K)
            (fun p => K (⟨w, .any, .any, A, x.2⟩ :: acc) (putD o.dst .any e) x.2 (some p))) (cond w (callD X.call e o.op A) (some (.ret undefD, A)))
      | _ => bnd (fun x => traceK M X ops os k (putD o.dst x.1 e) x.2 (⟨w, x.1, .any, A, x.2⟩ :: acc) K) (cond w (worldD X.P e o.op A) (some (undefD, A)))
    | .bad => none) (wantedD ops e o)
theorem bind_map' {α γ : Type} (x : Option α) (f : α → γ) (g : γ → Option β) : (x.map f).bind g = x.bind fun a => g (f a) := by cases x <;> rfl
def lastA (T : List TStep) (A : St) : St := (T.getLast?.map (·.A')).getD A
theorem lastA_cons (s : TStep) (T : List TStep) (A : St) : lastA (s :: T) A = lastA T s.A' := by
  unfold lastA
  cases T with
  | nil => rfl
  | cons a T => rw [List.getLast?_cons_cons]; cases h : (a :: T).getLast? with
    | none => simp at h
    | some y => rfl
theorem traceK_eq (X : Cx) (ops : Array Oper) (K : List TStep → List D → St → Option D → Option β) : ∀ (os : List Oper) (k : Nat) (e : List D) (A : St) (acc : List TStep),
    traceK mL X ops os k e A acc K = (traceD X ops os k e A).bind fun r => K (r.1.reverse ++ acc) (foldEnv (os.zip r.1) e) (lastA r.1 A) r.2
  | [], k, e, A, acc => by simp [traceK, traceD, foldEnv, lastA]
  | o :: os, k, e, A, acc => by
    simp only [traceK, traceD, bnd_eq, Option.bind_assoc]
    congr 1
    funext w
    cases drK X o.op with
    | val =>
      simp only [Option.bind_assoc]
      congr 1; funext d
      rw [traceK_eq X ops K os, bind_map']
      congr 1; funext r
      simp [lastA_cons, foldEnv]
    | load =>
      simp only [Option.bind_assoc]
      congr 1; funext d
      rw [traceK_eq X ops K os, bind_map']
      congr 1; funext r
      simp [lastA_cons, foldEnv]
    | wait =>
      simp only [show waitM mL X.P o.op k A = waitD X.P o.op k A from rfl]
      simp only [Option.bind_assoc]
      congr 1; funext d
      rw [traceK_eq X ops K os, bind_map']
      congr 1; funext r
      simp [lastA_cons, foldEnv]
    | eff =>
      cases opK X.P o.op
      case call =>
        simp only [Option.bind_assoc]
        congr 1; funext x
        cases x.1 with
        | ret d =>
          simp only [Res.elim]
          rw [traceK_eq X ops K os, bind_map']
          congr 1; funext r
          simp [lastA_cons, foldEnv]
        | pan p => simp [Res.elim, foldEnv, lastA]
      all_goals
        simp only [Option.bind_assoc]
        congr 1; funext x
        rw [traceK_eq X ops K os, bind_map']
        congr 1; funext r
        simp [lastA_cons, foldEnv]
    | bad => rfl
def drawKan (M : Mode) (X : Cx) (ops : Array Oper) (an : List (List Nat)) (e : Env) (A : St) (K : Out → Option β) : Option β :=
  bnd (fun H => traceK M X ops ops.toList A.length e.t (appH A H) [] fun T e' A' r =>
    cond (drawOk X ops an (r.map fun _ => T.length - 1))
      (M.gs (allSame T.reverse (loosePairs X ops an)) (allSameB T.reverse (loosePairs X ops an))
        (match r with
          | none => K ⟨.normal, { e with t := e' }, A'⟩
          | some p => K ⟨.pan p, { e with t := forgetEnv ops.toList e.t }, A'⟩)) none) (headD X ops.toList)
def drawK (M : Mode) (X : Cx) (ops : Array Oper) (e : Env) (A : St) (K : Out → Option β) : Option β := drawKan M X ops (ancAll ops) e A K
theorem guardP_bind {α : Type} (p : Prop) (x : Option α) (K : α → Option β) : (guardP p x).bind K = guardP p (x.bind K) := by
  unfold guardP; split <;> rfl
theorem drawK_eq (X : Cx) (ops : Array Oper) (e : Env) (A : St) (K : Out → Option β) : drawK mL X ops e A K = (drawD X ops e A).bind K := by
  unfold drawK drawKan drawD
  rw [bnd_eq, Option.bind_assoc]
  congr 1
  funext H
  rw [traceK_eq, Option.bind_assoc]
  congr 1
  funext r
  simp only [List.append_nil, List.length_reverse, List.reverse_reverse]
  cases drawOk X ops (ancAll ops) (r.2.map fun _ => r.1.length - 1) with
  | false => rfl
  | true =>
    simp only [cond_true, mL_gs]
    rw [guardP_bind]
    congr 1
    cases r.2 <;> rfl
/-- is a written-out table of what stands before each operation right? -/
def ancChk (an : List (List Nat)) : List Oper → Nat → Bool
  | [], j => an.length == j
  | o :: os, j => an[j]? == some (((bindsOn o) ++ (bindsOn o).flatMap (fun i => an.getD i [])).eraseDups) && (bindsOn o).all (fun i => decide (i < j)) && ancChk an os (j + 1)
theorem ancChk_fold (an : List (List Nat)) : ∀ (os : List Oper) (j : Nat), ancChk an os j = true →
    os.foldl (fun acc o => acc ++ [((bindsOn o) ++ (bindsOn o).flatMap (fun j => acc.getD j [])).eraseDups]) (an.take j) = an
  | [], j, h => by
    simp only [ancChk, beq_iff_eq] at h
    simp [List.take_of_length_le (Nat.le_of_eq h)]
  | o :: os, j, h => by
    simp only [ancChk, Bool.and_eq_true, beq_iff_eq, List.all_eq_true, decide_eq_true_eq] at h
    obtain ⟨⟨h1, h2⟩, h3⟩ := h
    rw [List.foldl_cons]
    have hf : (bindsOn o).flatMap (fun i => (an.take j).getD i []) = (bindsOn o).flatMap (fun i => an.getD i []) := by
      have : ∀ l : List Nat, (∀ i ∈ l, i < j) → l.flatMap (fun i => (an.take j).getD i []) = l.flatMap (fun i => an.getD i []) := by
        intro l
        induction l with
        | nil => intro _; rfl
        | cons a l ih =>
          intro hl
          rw [List.flatMap_cons, List.flatMap_cons, ih fun i hi => hl i (by simp [hi])]
          congr 1
          have := hl a (by simp)
          simp only [List.getD_eq_getElem?_getD, List.getElem?_take, if_pos this]
      exact this _ h2
    have ht : an.take j ++ [((bindsOn o) ++ (bindsOn o).flatMap (fun i => (an.take j).getD i [])).eraseDups] = an.take (j + 1) := by
      rw [hf, List.take_add_one, h1]
      rfl
    rw [ht]
    exact ancChk_fold an os (j + 1) h3
theorem ancChk_all (an : List (List Nat)) (ops : Array Oper) (h : ancChk an ops.toList 0 = true) : ancAll ops = an := by
  have := ancChk_fold an ops.toList 0 h
  simpa [ancAll] using this
def drawKn (M : Mode) (X : Cx) (an : List (List Nat)) (ops : Array Oper) (e : Env) (A : St) (K : Out → Option β) : Option β :=
  cond (ancChk an ops.toList 0) (drawKan M X ops an e A K) (drawK M X ops e A K)
theorem drawKn_eq (X : Cx) (an : List (List Nat)) (ops : Array Oper) (e : Env) (A : St) (K : Out → Option β) : drawKn mL X an ops e A K = (drawD X ops e A).bind K := by
  unfold drawKn
  cases h : ancChk an ops.toList 0 with
  | false => exact drawK_eq X ops e A K
  | true => rw [← ancChk_all an ops h]; exact drawK_eq X ops e A K
def joinK (K : Out → Option β) (r : (Env × St) ⊕ β) : Option β := r.elim (fun p => K ⟨.normal, p.1, p.2⟩) some
theorem seqK_join (o : Out) (K : Out → Option β) : (o.seqK (fun e A => some (.inl (e, A))) fun o => (K o).map .inr).bind (joinK K) = K o := by
  unfold Out.seqK
  cases o with
  | mk x e A => cases x <;> first | rfl | (simp only []; generalize K _ = r; cases r <;> rfl)
/-- what a loop over a function ends with, its slots aside -/
def endX (k : Nat) (A : St) : Option (Ex × St) :=
  match A[k]? with
  | some (.loop _ _ _ st) => match st with
    | .ready => some (.normal, A.set k .dead)
    | .ret => some (.ret, A.set k .dead)
    | .exit id => some (.exit id, A.set k .dead)
    | .busy => none
  | _ => none
theorem endX_eq (e : Env) (k : Nat) (A : St) : endRec e k A = (endX k A).map fun z => ⟨z.1, e, z.2⟩ := by
  unfold endRec endX
  cases A[k]? with
  | none => rfl
  | some s =>
    cases s with
    | loop f t rf st => cases st <;> rfl
    | _ => rfl
def codeK (M : Mode) (X : Cx) (J : KH) : {β : Type} → Code → Env → St → (Out → Option β) → Option β
  | _, .skip, e, A, K => K ⟨.normal, e, A⟩
  | _, .label _, e, A, K => K ⟨.normal, e, A⟩
  | _, .region id ops draw, e, A, K => cond draw (drawKn M X (J.anc id) ops e A K) (opsK X ops ops.toList e A K)
  | _, .seq a b, e, A, K => codeK M X J a e A fun o => o.seqK (fun e A => codeK M X J b (expand X.n e) A K) K
  | _, .cond c a b, e, A, K => bnd (fun t => cond (J.J c a b) (cond t (codeK M X J a (refine c true e) A fun o => K (o.atEnd X.n (X.h.liveJ (condId a b)))) (codeK M X J b (refine c false e) A fun o => K (o.atEnd X.n (X.h.liveJ (condId a b)))))
      (bnd (joinK K) (cond t (codeK M X J a (refine c true e) A fun o => (o.atEnd X.n (X.h.liveJ (condId a b))).seqK (fun e A => some (.inl (e, A))) fun o => (K o).map .inr)
        (codeK M X J b (refine c false e) A fun o => (o.atEnd X.n (X.h.liveJ (condId a b))).seqK (fun e A => some (.inl (e, A))) fun o => (K o).map .inr)))) (evalO e.t c).bool?
  | _, .block id c, e, A, K => codeK M X J c e A fun o => K (o.block id)
  | _, .loop c, e, A, K => M.it (fun e A => codeK M X J c (expand X.n e) A fun o => o.seqK
        (fun e' A' => cond (X.h.loopKeep (loopId c)) (some (.inl (mask X.n (X.h.live (loopId c)) e', A')))
          (M.gk A A' (some (.inl ((mask X.n (X.h.live (loopId c)) e').shut A.length, A'.take A.length)))))
        fun o => (K o).map .inr) (mask X.n (X.h.live (loopId c)) e) A
  | _, .exit id, e, A, K => K ⟨.exit id, e, A⟩
  | _, .ret, e, A, K => K ⟨.ret, e, A⟩
  | _, .rangeFunc g ps x y, e, A, K => cond (plainC x && plainC y)
      (bnd (fun r => r.1.elim (fun _ => bnd (fun z => K ⟨z.1, { e with df := (.yld true A.length, []) :: e.df }, z.2⟩) (endX (A.length + 1) r.2))
          (fun p => K ⟨.pan p, { e with df := (.yld true A.length, []) :: e.df }, r.2⟩))
        (seqCall X.P X.call (evalO e.t g) (A.length + 1) (A ++ [.dfb, .loop X.f (mask X.n (X.h.live (loopId y)) e).t (.rangeFunc g ps x y) .ready]))) none
  | _, _, _, _, _ => none
theorem codeK_eq (X : Cx) (J : KH) (hX : X.it = iterL) : ∀ (c : Code) {β : Type} (e : Env) (A : St) (K : Out → Option β), codeK mL X J c e A K = (codeD X c e A).bind K := by
  intro c
  induction c with
  | skip => intro β e A K; rfl
  | label l => intro β e A K; rfl
  | exit id => intro β e A K; rfl
  | ret => intro β e A K; rfl
  | region id ops draw =>
    intro β e A K
    simp only [codeK, codeD]
    cases draw
    · exact opsK_eq X ops K _ _ _
    · exact drawKn_eq X _ ops e A K
  | seq a b iha ihb =>
    intro β e A K
    simp only [codeK, codeD]
    rw [iha, Option.bind_assoc]
    congr 1
    funext o
    unfold Out.seqK Out.seq
    cases hx : o.ex with
    | normal => exact ihb _ _ K
    | exit i => simp only [Option.bind_some]; congr 1; cases o; simp at hx; subst hx; rfl
    | ret => simp only [Option.bind_some]; congr 1; cases o; simp at hx; subst hx; rfl
    | pan d => simp only [Option.bind_some]; congr 1; cases o; simp at hx; subst hx; rfl
  | cond c a b iha ihb =>
    intro β e A K
    simp only [codeK, codeD, bnd_eq]
    cases hc : (evalO e.t c).bool? with
    | none => rfl
    | some t =>
      simp only [Option.bind_some]
      simp only [iha, ihb]
      cases t
      · rw [refine_eq c false e hc]
        cases J.J c a b
        · simp only [cond_false]; rw [Option.bind_assoc, bind_map']; congr 1; funext o; exact seqK_join _ K
        · simp only [cond_false, cond_true]; rw [bind_map']
      · rw [refine_eq c true e hc]
        cases J.J c a b
        · simp only [cond_false, cond_true]; rw [Option.bind_assoc, bind_map']; congr 1; funext o; exact seqK_join _ K
        · simp only [cond_true]; rw [bind_map']
  | block id c ih =>
    intro β e A K
    simp only [codeK, codeD]
    rw [ih, bind_map']
  | loop c ih =>
    intro β e A K
    simp only [codeK, codeD, mL_it, mL_gk]
    rw [hX, iterL_bind]
    congr 1
    funext e A
    rw [ih]
    unfold stepD
    rw [Option.bind_assoc]
    congr 1
    funext o
    unfold Out.norm Out.seqK
    cases hx : o.ex with
    | normal =>
      simp only
      cases X.h.loopKeep (loopId c)
      · simp only [cond_false]; rw [guardP_bind]; rfl
      · rfl
    | exit i => simp only [Option.bind_some, hx]
    | ret => simp only [Option.bind_some, hx]
    | pan d => simp only [Option.bind_some, hx]
  | rangeFunc f ps x y =>
    intro β e A K
    simp only [codeK, codeD, bnd_eq]
    cases plainC x && plainC y
    · rfl
    · simp only [cond_true]
      rw [Option.bind_assoc]
      congr 1
      funext r
      cases r.1 with
      | ret d =>
        simp only [Res.elim]
        rw [endX_eq, bind_map']
      | pan d => rfl
  | scope c => intro β e A K; rfl
  | goto l => intro β e A K; rfl
  | refuse s => intro β e A K; rfl
def funK (M : Mode) (X : Cx) (J : KH) (dcall : D → List D → Option D → St → Option (Option D × St)) (fn : Func) (args : List D) (A : St) : ORes :=
  cond (decide (args.length ≤ fn.ntmps) && X.n == fn.ntmps)
    (fn.body.bind fun c => codeK M X J c (env0 fn (canA X.h args)) A fun o =>
      bnd (fun r => leaveM M X.h.ret A r.1 r.2) (o.leave fun e p A' => leavesD dcall (fun A' => (resultsD X.P e.t A' fn.results.toList).map packD) e.df p A')) none
theorem funK_eq (X : Cx) (J : KH) (dcall : D → List D → Option D → St → Option (Option D × St)) (fn : Func) (args : List D) (A : St) (hX : X.it = iterL) : funK mL X J dcall fn args A = funD X dcall fn args A := by
  unfold funK funD
  simp only [bnd_eq, leaveM_mL]
  congr 1
  congr 1
  funext c
  exact codeK_eq X J hX c _ A _
/-- what a deferred call comes to -/
noncomputable def Dcall (P : Program) (H : Ext0) : D → List D → Option D → St → Option (Option D × St) := dcallD P H (Run P H) iterL
def roundEndM (M : Mode) (k : Nat) (A : St) (o : Out) : ORes :=
  match o.ex with
  | .normal => bnd (fun A' => bnd (fun B => some (.ret (.bool true), B)) (M.cl A A')) (recSet k .ready o.st)
  | .ret => bnd (fun A' => bnd (fun B => some (.ret (.bool false), B)) (M.cl A A')) (recSet k .ret o.st)
  | .exit id => bnd (fun A' => bnd (fun B => some (.ret (.bool false), B)) (M.cl A A')) (recSet k (.exit id) o.st)
  | .pan d => cond o.env.df.isEmpty (bnd (fun B => some (.pan (d.shut A.length), B)) (M.cl A o.st)) none
theorem roundEndM_eq (k : Nat) (A : St) (o : Out) : roundEndM mL k A o = roundEnd k A o := by
  unfold roundEndM roundEnd
  have e : ∀ (x : Option St) (d : Res), bnd (fun A' => bnd (fun B => some (d, B)) (mL.cl A A')) x = x.map fun A' => (d, closeSt A A') := by
    intro x d; cases x <;> rfl
  cases o.ex <;> first | exact e _ _ | rfl
def roundK (M : Mode) (X : Cx) (J : KH) (k : Nat) (t : List D) (rf : Code) (args : List D) (A : St) : ORes :=
  match rf with
  | .rangeFunc _ ps x y => cond (plainC x && plainC y && (args.length == ps.size && t.length == X.n))
      (codeK M X J x ⟨setParams ps.toList args t, []⟩ A fun o1 => match o1.ex with
        | .normal => bnd (fun A2 => codeK M X J y (expand X.n o1.env) A2 (roundEndM M k A)) (recBusy k o1.st)
        | _ => none) none
  | _ => none
theorem roundK_eq (X : Cx) (J : KH) (hX : X.it = iterL) (k : Nat) (t : List D) (rf : Code) (args : List D) (A : St) : roundK mL X J k t rf args A = roundC X k t rf args A := by
  cases rf <;> try rfl
  simp only [roundK, roundC]
  congr 1
  rw [codeK_eq X J hX]
  congr 1
  funext o1
  cases o1.ex with
  | normal =>
    simp only [bnd_eq]
    congr 1
    funext A2
    rw [codeK_eq X J hX]
    congr 1
    funext o
    exact roundEndM_eq k A o
  | _ => rfl
/-- hints alone -/
def bare (hint : FuncId → Hints) : Ext0 := { hint, ext := fun _ => none }
noncomputable def rbodyK (M : Mode) (P : Program) (hint : FuncId → Hints) (JJ : FuncId → KH) (call : FuncId → List D → St → ORes) (f : FuncId) (k : Nat) (t : List D) (rf : Code) (args : List D) (A : St) : ORes :=
  (P.funcs[f]?).bind fun fn => roundK M (mkCx P (bare hint) call iterL f fn) (JJ f) k t rf args A
noncomputable def roundB (M : Mode) (P : Program) (H : Ext0) (JJ : FuncId → KH) (call : FuncId → List D → St → ORes) (args : List D) (A : St) : ORes :=
  match args with
  | [.tup [.yld true k], .tup as] => match A[k]? with
    | some (.loop f t rf .ready) => rbodyK M P H.hint JJ call f k t rf as A
    | _ => none
  | _ => none
theorem roundB_eq (P : Program) (H : Ext0) (JJ : FuncId → KH) (call : FuncId → List D → St → ORes) (args : List D) (A : St) : roundB mL P H JJ call args A = roundD P (mkCx P H call iterL) args A := by
  have key : ∀ f k t rf as, rbodyK mL P H.hint JJ call f k t rf as A = (P.funcs[f]?).bind fun fn => roundC (mkCx P H call iterL f fn) k t rf as A := by
    intro f k t rf as
    unfold rbodyK
    congr 1
    funext fn
    exact roundK_eq _ _ rfl _ _ _ _ _
  unfold roundB roundD
  simp only [key]
  rfl
/-- a function's own text -/
noncomputable def bodyN (M : Mode) (P : Program) (hint : FuncId → Hints) (JJ : FuncId → KH) (call : FuncId → List D → St → ORes) (dcall : D → List D → Option D → St → Option (Option D × St)) (f : FuncId) (args : List D) (A : St) : ORes :=
  (P.funcs[f]?).bind fun fn => cond (fnOk fn) (funK M (mkCx P (bare hint) call iterL f fn) (JJ f) dcall fn args A) none
noncomputable def bodyK (M : Mode) (P : Program) (H : Ext0) (JJ : FuncId → KH) (call : FuncId → List D → St → ORes) (dcall : D → List D → Option D → St → Option (Option D × St)) (f : FuncId) (args : List D) (A : St) : ORes :=
  cond (Nat.beq f rOff) (roundB M P H JJ call args A)
    (match H.ext f with
    | some x => x args A
    | none => bodyN M P H.hint JJ call dcall f args A)
/-- THE EQUATION, as it is read off -/
theorem Run_eqK (P : Program) (H : Ext0) (JJ : FuncId → KH) (f : FuncId) (args : List D) (A : St) : Run P H f args A = bodyK mL P H JJ (Run P H) (Dcall P H) f args A := by
  rw [Run_eq]
  unfold bodyD bodyK Dcall
  rw [roundB_eq]
  congr 1
  cases H.ext f with
  | some x => rfl
  | none =>
    simp only
    unfold bodyN
    congr 1
    funext fn
    congr 1
    exact (funK_eq _ _ _ _ _ _ rfl).symm
/-- a function's equation, of its own text -/
theorem qbh (P : Program) (H : Ext0) (JJ : FuncId → KH) {f : FuncId} (hf : Nat.beq f rOff = false) (hx : H.ext f = none) (args : List D) (A : St) : Run P H f args A = bodyN mL P H.hint JJ (Run P H) (Dcall P H) f args A := by
  rw [Run_eqK (JJ := JJ)]
  unfold bodyK
  rw [hf, hx]
  rfl
/-- THE EQUATION of a round -/
theorem Run_round (P : Program) (H : Ext0) (JJ : FuncId → KH) (k : Nat) (args : List D) (A : St) {f : FuncId} {t : List D} {rf : Code} (hk : A[k]? = some (.loop f t rf .ready)) :
    Run P H rOff [.tup [.yld true k], .tup args] A = rbodyK mL P H.hint JJ (Run P H) f k t rf args A := by
  rw [Run_eq]
  unfold bodyD rbodyK
  rw [Nat.beq_refl]
  simp only [cond_true, roundD, hk]
  congr 1
  funext fn
  exact (roundK_eq _ _ rfl _ _ _ _ _).symm
/-- the statement of a loop over a function, by its body's name -/
def rfIn (j : Nat) : Code → Option Code
  | .seq a b | .cond _ a b => (rfIn j a).or (rfIn j b)
  | .block _ c | .loop c | .scope c => rfIn j c
  | .rangeFunc g ps x y => if loopId y = j then some (.rangeFunc g ps x y) else none
  | _ => none
def rfAt (P : Program) (f : FuncId) (j : Nat) : Code := ((P.funcs[f]?).bind fun fn => fn.body.bind (rfIn j)).getD .skip
/-! deferred calls, with what comes behind handed in -/
def SOut.seqK (o : SOut) (f : Env → PS → St → Option β) (K : SOut → Option β) : Option β :=
  match o.ex with
  | .normal => f o.env o.ps o.st
  | _ => K o
def SOut.leaveK (o : SOut) (f : Env → PS → St → Option β) : Option β :=
  match o.ex with
  | .normal | .ret => f o.env o.ps o.st
  | _ => none
def opsSK (X : Cx) (ops : Array Oper) : List Oper → Env → PS → St → (SOut → Option β) → Option β
  | [], e, ps, A, K => K ⟨.normal, e, ps, A⟩
  | o :: os, e, ps, A, K => cond (recOp o.op)
      (cond o.guard.isNone (opsSK X ops os { e with t := putD o.dst (recoverPS ps).1 e.t } (recoverPS ps).2 A K) none)
      (cond (yldCall e.t o.op) none (opsK X ops [o] e A fun r => r.seqK (fun e A => opsSK X ops os e ps A K) fun r => K ⟨r.ex, r.env, ps, r.st⟩))
theorem opsSK_eq (X : Cx) (ops : Array Oper) (K : SOut → Option β) : ∀ (os : List Oper) (e : Env) (ps : PS) (A : St), opsSK X ops os e ps A K = (opsSD X ops os e ps A).bind K
  | [], e, ps, A => rfl
  | o :: os, e, ps, A => by
    simp only [opsSK, opsSD]
    cases recOp o.op
    · simp only [cond_false]
      cases yldCall e.t o.op
      case true => rfl
      simp only [cond_false]
      rw [opsK_eq, Option.bind_assoc]
      congr 1
      funext r
      unfold Out.seqK
      cases hx : r.ex with
      | normal => exact opsSK_eq X ops K os _ _ _
      | exit i => simp only [hx, Option.bind_some]
      | ret => simp only [hx, Option.bind_some]
      | pan d => simp only [hx, Option.bind_some]
    · simp only [cond_true]
      cases o.guard.isNone
      · rfl
      · exact opsSK_eq X ops K os _ _ _
def codeSK (M : Mode) (X : Cx) (J : KH) : Code → Env → PS → St → (SOut → Option β) → Option β
  | .seq a b, e, ps, A, K => codeSK M X J a e ps A fun o => o.seqK (fun e ps A => codeSK M X J b (expand X.n e) ps A K) K
  | .cond c a b, e, ps, A, K => bnd (fun t => cond t (codeSK M X J a (refine c true e) ps A K) (codeSK M X J b (refine c false e) ps A K)) (evalO e.t c).bool?
  | .region id ops draw, e, ps, A, K => cond (ops.any fun o => recOp o.op) (cond draw none (opsSK X ops ops.toList e ps A K))
      (codeK M X J (.region id ops draw) e A fun o => K ⟨o.ex, o.env, ps, o.st⟩)
  | c, e, ps, A, K => cond (noRf c) (codeK M X J c e A fun o => K ⟨o.ex, o.env, ps, o.st⟩) none
theorem codeSK_eq (X : Cx) (J : KH) (hX : X.it = iterL) (c : Code) : ∀ (e : Env) (ps : PS) (A : St) (K : SOut → Option β), codeSK mL X J c e ps A K = (codeSD X c e ps A).bind K := by
  have hc : ∀ (c : Code) (e : Env) (ps : PS) (A : St) (K : SOut → Option β), codeK mL X J c e A (fun o => K ⟨o.ex, o.env, ps, o.st⟩) = ((codeD X c e A).map fun o => (⟨o.ex, o.env, ps, o.st⟩ : SOut)).bind K := by
    intro c e ps A K
    rw [codeK_eq X J hX, bind_map']
  induction c with
  | seq a b iha ihb =>
    intro e ps A K
    simp only [codeSK, codeSD]
    rw [iha, Option.bind_assoc]
    congr 1
    funext o
    unfold SOut.seqK SOut.seq
    cases hx : o.ex with
    | normal => exact ihb _ _ _ K
    | exit i => simp only [Option.bind_some]; congr 1; cases o; simp at hx; subst hx; rfl
    | ret => simp only [Option.bind_some]; congr 1; cases o; simp at hx; subst hx; rfl
    | pan d => simp only [Option.bind_some]; congr 1; cases o; simp at hx; subst hx; rfl
  | cond c a b iha ihb =>
    intro e ps A K
    simp only [codeSK, codeSD, bnd_eq]
    cases h : (evalO e.t c).bool? with
    | none => rfl
    | some t =>
      simp only [Option.bind_some]
      cases t
      · rw [refine_eq c false e h]; exact ihb _ _ _ K
      · rw [refine_eq c true e h]; exact iha _ _ _ K
  | region id ops draw =>
    intro e ps A K
    simp only [codeSK, codeSD]
    cases ops.any fun o => recOp o.op
    · simp only [cond_false]; exact hc _ _ _ _ K
    · cases draw
      · exact opsSK_eq X ops K _ _ _ _
      · rfl
  | _ =>
    intro e ps A K
    simp only [codeSK, codeSD]
    generalize noRf _ = b
    cases b
    · rfl
    · exact hc _ _ _ _ K
def defK (M : Mode) (X : Cx) (J : KH) (fn : Func) (args : List D) (p : Option D) (A : St) : Option (Option D × St) :=
  cond (decide (args.length ≤ fn.ntmps) && X.n == fn.ntmps)
    (fn.body.bind fun c => codeSK M X J c (env0 fn args) (p.map fun d => (d, false)) A fun o => o.leaveK fun e ps A' =>
      cond e.df.isEmpty (bnd (fun _ => M.gk A A' (some ((afterPS ps).map (D.shut A.length), A'.take A.length))) (resultsD X.P e.t A' fn.results.toList)) none) none
theorem defK_eq (X : Cx) (J : KH) (fn : Func) (args : List D) (p : Option D) (A : St) (hX : X.it = iterL) : defK mL X J fn args p A = defD X fn args p A := by
  unfold defK defD
  congr 1
  congr 1
  funext c
  rw [codeSK_eq X J hX]
  congr 1
  funext o
  unfold SOut.leaveK
  cases o.ex <;> simp only [bnd_eq, mL_gk]
/-- a deferred call of a function, as it is read off -/
noncomputable def dbodyK (M : Mode) (P : Program) (hint : FuncId → Hints) (JJ : FuncId → KH) (call : FuncId → List D → St → ORes) (g : FuncId) (args : List D) (p : Option D) (A : St) : Option (Option D × St) :=
  (P.funcs[g]?).bind fun fn => cond (fnOk fn) (defK M (mkCx P (bare hint) call iterL g fn) (JJ g) fn args p A) none
theorem Dcall_eqK (P : Program) (H : Ext0) (JJ : FuncId → KH) (g : FuncId) (first cap args : List D) (p : Option D) (A : St) :
    Dcall P H (.fn (.func g) first cap) args p A = dbodyK mL P H.hint JJ (Run P H) g (first ++ args ++ cap) p A := by
  unfold Dcall dcallD dbodyK
  simp only
  congr 1
  funext fn
  congr 1
  exact (defK_eq _ _ _ _ _ _ rfl).symm
end Go.Vm
