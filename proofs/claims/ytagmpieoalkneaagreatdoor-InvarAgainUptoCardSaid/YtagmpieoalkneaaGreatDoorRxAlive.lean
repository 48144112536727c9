/- VmTbl, RxT, RxAlive in one text. -/
import Derived.Test.YtagmpieoalkneaaGreatDoorVmClosed
import Derived.Test.YtagmpieoalkneaaGreatDoorRxN1
import Derived.Test.YtagmpieoalkneaaGreatDoorRxN3
import Derived.Test.YtagmpieoalkneaaGreatDoorRxN5
import Derived.KernelRfl
set_option linter.all false
/- The run reckoned over normal forms: tables of functions and loops. -/
namespace Go.Vm

section
variable (P : Program) (hint : FuncId → Hints) (JJ : FuncId → KH)
structure Ent where
  f : FuncId
  run : Ev → List D → St → ORes
  ok : ∀ E x A,OLe (run E x A) (bodyR mN P hint JJ E.call E.dcall E.lp f x A)
structure LEnt where
  f : FuncId
  q : List Nat
  run : Ev → List St → Env → St → ORes
  ok : ∀ E ss e A,run E ss e A = none ∨ (((P.funcs[f]?).bind fun fn => fn.body.map fun c => lvl c q + 1) = some ss.length ∧ OLe (run E ss e A) (loopB mN P hint JJ E.call E.dcall E.lp f q ss e A))
inductive Tree (α : Type) where
  | leaf
  | node (k : Nat) (a : α) (l r : Tree α)
end
def Tree.get {α : Type} (t : Tree α) (k : Nat) : Option α :=
  match t with
  | .leaf => none
  | .node j a l r => cond (Nat.beq k j) (some a) (cond (Nat.ble k j) (l.get k) (r.get k))
section
variable {P : Program} {hint : FuncId → Hints} {JJ : FuncId → KH}
def e0 (f : FuncId) (g : Ev → St → ORes) (h : ∀ E A,bodyR mN P hint JJ E.call E.dcall E.lp f [] A = g E A) : Ent P hint JJ :=
  ⟨f,fun E x A => match x with | [] => g E A | _ => none,fun E x A => by
    cases x with
    | nil => exact OLe.of_eq (h E A).symm
    | cons a x => exact OLe.none _⟩
def e1 (f : FuncId) (g : Ev → D → St → ORes) (h : ∀ E a A,bodyR mN P hint JJ E.call E.dcall E.lp f [a] A = g E a A) : Ent P hint JJ :=
  ⟨f,fun E x A => match x with | [a] => g E a A | _ => none,fun E x A => by
    split
    · exact OLe.of_eq (h E _ A).symm
    · exact OLe.none _⟩
def e2 (f : FuncId) (g : Ev → D → D → St → ORes) (h : ∀ E a b A,bodyR mN P hint JJ E.call E.dcall E.lp f [a,b] A = g E a b A) : Ent P hint JJ :=
  ⟨f,fun E x A => match x with | [a,b] => g E a b A | _ => none,fun E x A => by
    split
    · exact OLe.of_eq (h E _ _ A).symm
    · exact OLe.none _⟩
def e3 (f : FuncId) (g : Ev → D → D → D → St → ORes) (h : ∀ E a b c A,bodyR mN P hint JJ E.call E.dcall E.lp f [a,b,c] A = g E a b c A) : Ent P hint JJ :=
  ⟨f,fun E x A => match x with | [a,b,c] => g E a b c A | _ => none,fun E x A => by
    split
    · exact OLe.of_eq (h E _ _ _ A).symm
    · exact OLe.none _⟩
def e4 (f : FuncId) (g : Ev → D → D → D → D → St → ORes) (h : ∀ E a b c d A,bodyR mN P hint JJ E.call E.dcall E.lp f [a,b,c,d] A = g E a b c d A) : Ent P hint JJ :=
  ⟨f,fun E x A => match x with | [a,b,c,d] => g E a b c d A | _ => none,fun E x A => by
    split
    · exact OLe.of_eq (h E _ _ _ _ A).symm
    · exact OLe.none _⟩
def l1 (f : FuncId) (q : List Nat) (g : Ev → St → Env → St → ORes) (hl : ((P.funcs[f]?).bind fun fn => fn.body.map fun c => lvl c q + 1) = some 1) (h : ∀ E B e A,loopB mN P hint JJ E.call E.dcall E.lp f q [B] e A = g E B e A) : LEnt P hint JJ :=
  ⟨f,q,fun E ss e A => match ss with | [B] => g E B e A | _ => none,fun E ss e A => by
    split
    · exact .inr ⟨hl,OLe.of_eq (h E _ e A).symm⟩
    · exact .inl rfl⟩
def l2 (f : FuncId) (q : List Nat) (g : Ev → St → St → Env → St → ORes) (hl : ((P.funcs[f]?).bind fun fn => fn.body.map fun c => lvl c q + 1) = some 2) (h : ∀ E B C e A,loopB mN P hint JJ E.call E.dcall E.lp f q [C,B] e A = g E B C e A) : LEnt P hint JJ :=
  ⟨f,q,fun E ss e A => match ss with | [C,B] => g E B C e A | _ => none,fun E ss e A => by
    split
    · exact .inr ⟨hl,OLe.of_eq (h E _ _ e A).symm⟩
    · exact .inl rfl⟩
def natsB : List Nat → List Nat → Bool
  | [],[] => true
  | a :: r,b :: s => cond (Nat.beq a b) (natsB r s) false
  | _,_ => false
theorem natsB_eq : ∀ {a b : List Nat},natsB a b = true → a = b
  | [],[],_ => rfl
  | a :: r,b :: s,h => by
    unfold natsB at h
    cases hb : Nat.beq a b with
    | false => rw [hb] at h; cases h
    | true => rw [hb] at h; rw [Nat.eq_of_beq_eq_true hb,natsB_eq h]
  | [],_ :: _,h => by cases h
  | _ :: _,[],h => by cases h
def lpGo (E : Ev) (f : FuncId) (q : List Nat) (ss : List St) (e : Env) (A : St) : List (LEnt P hint JJ) → ORes
  | [] => none
  | x :: r => cond (natsB q x.q) (cond (Nat.beq f x.f) (x.run E ss e A) none) (lpGo E f q ss e A r)
end
section
variable (P : Program) (H : Ext0) (JJ : FuncId → KH) (N : Nat) (T : Tree (Ent P H.hint JJ)) (L : Tree (List (LEnt P H.hint JJ)))
noncomputable def evtStep (E : Ev) : Ev where
  call f args A:=match Nat.beq f rOff with
    | true => (evStep P H JJ E).call f args A
    | false => match H.ext f with
      | some x => x args A
      | none => match Nat.blt f N with
        | true => match T.get f with
          | some x => cond (Nat.beq x.f f) (x.run E (canA (H.hint f) args) A) none
          | none => none
        | false => none
  dcall:=(evStep P H JJ E).dcall
  lp f q ss e A:=match Nat.blt f N with
    | true => match L.get f with
      | some l => lpGo E f q ss e A l
      | none => none
    | false => none
noncomputable def evT : Nat → Ev
  | 0 => ⟨fun _ _ _ => none,fun _ _ _ _ => none,fun _ _ _ _ _ => none⟩
  | n + 1 => evtStep P H JJ N T L (evT n)
variable {P H JJ N} (okN : ∀ f,Nat.blt f N = true → okF P H.hint JJ f = true)
include okN
theorem evtStep_ok {E : Ev} (ok : EvOk P H E) : EvOk P H (evtStep P H JJ N T L E):=by
  have s:=evStep_ok P H JJ ok
  refine ⟨fun f args A => ?_,s.dcall,fun f q ss e A => ?_⟩
  · simp only [evtStep]
    cases hf : Nat.beq f rOff with
    | true => exact s.call f args A
    | false =>
      have hc:=s.call f args A
      simp only [evStep,hf] at hc
      cases hx : H.ext f with
      | some x => rw [hx] at hc; exact hc
      | none =>
        rw [hx] at hc
        simp only []
        cases hb : Nat.blt f N with
        | false => exact OLe.none _
        | true =>
          simp only [okN f hb] at hc
          simp only []
          cases T.get f with
          | none => exact OLe.none _
          | some x =>
            simp only []
            cases he : Nat.beq x.f f with
            | false => exact OLe.none _
            | true =>
              have:=Nat.eq_of_beq_eq_true he
              subst this
              exact (x.ok E _ A).trans hc
  · have key : ∀ l : List (LEnt P H.hint JJ),Nat.blt f N = true → OLe (lpGo E f q ss e A l) (LP P H f q ss e A):=by
      intro l hb
      induction l with
      | nil => exact OLe.none _
      | cons x r ih =>
        unfold lpGo
        cases hq : natsB q x.q with
        | false => exact ih
        | true =>
          rw [cond_true]
          cases hf : Nat.beq f x.f with
          | false => exact OLe.none _
          | true =>
            have h1:=natsB_eq hq
            have h2:=Nat.eq_of_beq_eq_true hf
            subst h1; subst h2
            rw [cond_true]
            rcases x.ok E ss e A with h | ⟨h,k⟩
            · rw [h]; exact OLe.none _
            · refine k.trans ?_
              rw [LP_eq P H JJ (okN _ hb) h]
              unfold loopB
              refine (OLe.refl _).bind fun fn => (OLe.refl _).bind fun c0 => ?_
              split
              · simp only [genK_eq]
                exact codeR_le mN_le ok.call _ (ok.lp _) _ _ _ _ _ fun o => loopK_le mN_le rfl rfl (ok.lp _) _ _ _ (fun o => contR_le mN_le ok.call _ (ok.lp _) _ (fun A o => K0_le mN_le rfl rfl ok.dcall _ _ _) _ _ _) _ _
              · exact OLe.none _
    simp only [evtStep]
    cases hb : Nat.blt f N with
    | false => exact OLe.none _
    | true =>
      simp only []
      cases L.get f with
      | none => exact OLe.none _
      | some l => exact key l hb
theorem evT_ok : ∀ n,EvOk P H (evT P H JJ N T L n)
  | 0 => ⟨fun _ _ _ => OLe.none _,fun _ _ _ _ => OLe.none _,fun _ _ _ _ _ => OLe.none _⟩
  | n + 1 => evtStep_ok T L okN (evT_ok n)
end
end Go.Vm

/- The functions' normal forms,by their numbers. -/
namespace Go.Vm.Rx
open Go.Proofs
set_option maxRecDepth 100000
set_option maxHeartbeats 0
noncomputable def tF : Tree (Ent Tryz.prog rxH.hint kk) :=
 .node 83 (e1 83 (fun E a0 A => (n83 mN E.call E.dcall E.lp a0 A).1) fun _ _ _ => (n83 ..).2) (.node 43 (e1 43 (fun E a0 A => (n43 mN E.call E.dcall E.lp a0 A).1) fun _ _ _ => (n43 ..).2) (.node 22 (e2 22 (fun E a0 a1 A => (n22 mN E.call E.dcall E.lp a0 a1 A).1) fun _ _ _ _ => (n22 ..).2) (.node 12 (e1 12 (fun E a0 A => (n12 mN E.call E.dcall E.lp a0 A).1) fun _ _ _ => (n12 ..).2) (.node 7 (e2 7 (fun E a0 a1 A => (n7 mN E.call E.dcall E.lp a0 a1 A).1) fun _ _ _ _ => (n7 ..).2) (.node 5 (e1 5 (fun E a0 A => (n5 mN E.call E.dcall E.lp a0 A).1) fun _ _ _ => (n5 ..).2) (.node 4 (e1 4 (fun E a0 A => (n4 mN E.call E.dcall E.lp a0 A).1) fun _ _ _ => (n4 ..).2) (.node 3 (e1 3 (fun E a0 A => (n3 mN E.call E.dcall E.lp a0 A).1) fun _ _ _ => (n3 ..).2) (.leaf) (.leaf)) (.leaf)) (.node 6 (e1 6 (fun E a0 A => (n6 mN E.call E.dcall E.lp a0 A).1) fun _ _ _ => (n6 ..).2) (.leaf) (.leaf))) (.node 10 (e2 10 (fun E a0 a1 A => (n10 mN E.call E.dcall E.lp a0 a1 A).1) fun _ _ _ _ => (n10 ..).2) (.node 9 (e1 9 (fun E a0 A => (n9 mN E.call E.dcall E.lp a0 A).1) fun _ _ _ => (n9 ..).2) (.node 8 (e1 8 (fun E a0 A => (n8 mN E.call E.dcall E.lp a0 A).1) fun _ _ _ => (n8 ..).2) (.leaf) (.leaf)) (.leaf)) (.node 11 (e0 11 (fun E  A => (n11 mN E.call E.dcall E.lp  A).1) fun _  _ => (n11 ..).2) (.leaf) (.leaf)))) (.node 17 (e2 17 (fun E a0 a1 A => (n17 mN E.call E.dcall E.lp a0 a1 A).1) fun _ _ _ _ => (n17 ..).2) (.node 15 (e1 15 (fun E a0 A => (n15 mN E.call E.dcall E.lp a0 A).1) fun _ _ _ => (n15 ..).2) (.node 14 (e1 14 (fun E a0 A => (n14 mN E.call E.dcall E.lp a0 A).1) fun _ _ _ => (n14 ..).2) (.node 13 (e1 13 (fun E a0 A => (n13 mN E.call E.dcall E.lp a0 A).1) fun _ _ _ => (n13 ..).2) (.leaf) (.leaf)) (.leaf)) (.node 16 (e2 16 (fun E a0 a1 A => (n16 mN E.call E.dcall E.lp a0 a1 A).1) fun _ _ _ _ => (n16 ..).2) (.leaf) (.leaf))) (.node 20 (e1 20 (fun E a0 A => (n20 mN E.call E.dcall E.lp a0 A).1) fun _ _ _ => (n20 ..).2) (.node 19 (e1 19 (fun E a0 A => (n19 mN E.call E.dcall E.lp a0 A).1) fun _ _ _ => (n19 ..).2) (.node 18 (e1 18 (fun E a0 A => (n18 mN E.call E.dcall E.lp a0 A).1) fun _ _ _ => (n18 ..).2) (.leaf) (.leaf)) (.leaf)) (.node 21 (e2 21 (fun E a0 a1 A => (n21 mN E.call E.dcall E.lp a0 a1 A).1) fun _ _ _ _ => (n21 ..).2) (.leaf) (.leaf))))) (.node 32 (e2 32 (fun E a0 a1 A => (n32 mN E.call E.dcall E.lp a0 a1 A).1) fun _ _ _ _ => (n32 ..).2) (.node 27 (e2 27 (fun E a0 a1 A => (n27 mN E.call E.dcall E.lp a0 a1 A).1) fun _ _ _ _ => (n27 ..).2) (.node 25 (e1 25 (fun E a0 A => (n25 mN E.call E.dcall E.lp a0 A).1) fun _ _ _ => (n25 ..).2) (.node 24 (e4 24 (fun E a0 a1 a2 a3 A => (n24 mN E.call E.dcall E.lp a0 a1 a2 a3 A).1) fun _ _ _ _ _ _ => (n24 ..).2) (.node 23 (e1 23 (fun E a0 A => (n23 mN E.call E.dcall E.lp a0 A).1) fun _ _ _ => (n23 ..).2) (.leaf) (.leaf)) (.leaf)) (.node 26 (e2 26 (fun E a0 a1 A => (n26 mN E.call E.dcall E.lp a0 a1 A).1) fun _ _ _ _ => (n26 ..).2) (.leaf) (.leaf))) (.node 30 (e1 30 (fun E a0 A => (n30 mN E.call E.dcall E.lp a0 A).1) fun _ _ _ => (n30 ..).2) (.node 29 (e1 29 (fun E a0 A => (n29 mN E.call E.dcall E.lp a0 A).1) fun _ _ _ => (n29 ..).2) (.node 28 (e2 28 (fun E a0 a1 A => (n28 mN E.call E.dcall E.lp a0 a1 A).1) fun _ _ _ _ => (n28 ..).2) (.leaf) (.leaf)) (.leaf)) (.node 31 (e2 31 (fun E a0 a1 A => (n31 mN E.call E.dcall E.lp a0 a1 A).1) fun _ _ _ _ => (n31 ..).2) (.leaf) (.leaf)))) (.node 37 (e1 37 (fun E a0 A => (n37 mN E.call E.dcall E.lp a0 A).1) fun _ _ _ => (n37 ..).2) (.node 35 (e1 35 (fun E a0 A => (n35 mN E.call E.dcall E.lp a0 A).1) fun _ _ _ => (n35 ..).2) (.node 34 (e1 34 (fun E a0 A => (n34 mN E.call E.dcall E.lp a0 A).1) fun _ _ _ => (n34 ..).2) (.node 33 (e2 33 (fun E a0 a1 A => (n33 mN E.call E.dcall E.lp a0 a1 A).1) fun _ _ _ _ => (n33 ..).2) (.leaf) (.leaf)) (.leaf)) (.node 36 (e3 36 (fun E a0 a1 a2 A => (n36 mN E.call E.dcall E.lp a0 a1 a2 A).1) fun _ _ _ _ _ => (n36 ..).2) (.leaf) (.leaf))) (.node 40 (e2 40 (fun E a0 a1 A => (n40 mN E.call E.dcall E.lp a0 a1 A).1) fun _ _ _ _ => (n40 ..).2) (.node 39 (e2 39 (fun E a0 a1 A => (n39 mN E.call E.dcall E.lp a0 a1 A).1) fun _ _ _ _ => (n39 ..).2) (.node 38 (e2 38 (fun E a0 a1 A => (n38 mN E.call E.dcall E.lp a0 a1 A).1) fun _ _ _ _ => (n38 ..).2) (.leaf) (.leaf)) (.leaf)) (.node 41 (e2 41 (fun E a0 a1 A => (n41 mN E.call E.dcall E.lp a0 a1 A).1) fun _ _ _ _ => (n41 ..).2) (.leaf) (.leaf)))))) (.node 63 (e1 63 (fun E a0 A => (n63 mN E.call E.dcall E.lp a0 A).1) fun _ _ _ => (n63 ..).2) (.node 53 (e1 53 (fun E a0 A => (n53 mN E.call E.dcall E.lp a0 A).1) fun _ _ _ => (n53 ..).2) (.node 48 (e1 48 (fun E a0 A => (n48 mN E.call E.dcall E.lp a0 A).1) fun _ _ _ => (n48 ..).2) (.node 46 (e1 46 (fun E a0 A => (n46 mN E.call E.dcall E.lp a0 A).1) fun _ _ _ => (n46 ..).2) (.node 45 (e1 45 (fun E a0 A => (n45 mN E.call E.dcall E.lp a0 A).1) fun _ _ _ => (n45 ..).2) (.node 44 (e1 44 (fun E a0 A => (n44 mN E.call E.dcall E.lp a0 A).1) fun _ _ _ => (n44 ..).2) (.leaf) (.leaf)) (.leaf)) (.node 47 (e1 47 (fun E a0 A => (n47 mN E.call E.dcall E.lp a0 A).1) fun _ _ _ => (n47 ..).2) (.leaf) (.leaf))) (.node 51 (e1 51 (fun E a0 A => (n51 mN E.call E.dcall E.lp a0 A).1) fun _ _ _ => (n51 ..).2) (.node 50 (e1 50 (fun E a0 A => (n50 mN E.call E.dcall E.lp a0 A).1) fun _ _ _ => (n50 ..).2) (.node 49 (e1 49 (fun E a0 A => (n49 mN E.call E.dcall E.lp a0 A).1) fun _ _ _ => (n49 ..).2) (.leaf) (.leaf)) (.leaf)) (.node 52 (e1 52 (fun E a0 A => (n52 mN E.call E.dcall E.lp a0 A).1) fun _ _ _ => (n52 ..).2) (.leaf) (.leaf)))) (.node 58 (e2 58 (fun E a0 a1 A => (n58 mN E.call E.dcall E.lp a0 a1 A).1) fun _ _ _ _ => (n58 ..).2) (.node 56 (e1 56 (fun E a0 A => (n56 mN E.call E.dcall E.lp a0 A).1) fun _ _ _ => (n56 ..).2) (.node 55 (e2 55 (fun E a0 a1 A => (n55 mN E.call E.dcall E.lp a0 a1 A).1) fun _ _ _ _ => (n55 ..).2) (.node 54 (e1 54 (fun E a0 A => (n54 mN E.call E.dcall E.lp a0 A).1) fun _ _ _ => (n54 ..).2) (.leaf) (.leaf)) (.leaf)) (.node 57 (e1 57 (fun E a0 A => (n57 mN E.call E.dcall E.lp a0 A).1) fun _ _ _ => (n57 ..).2) (.leaf) (.leaf))) (.node 61 (e1 61 (fun E a0 A => (n61 mN E.call E.dcall E.lp a0 A).1) fun _ _ _ => (n61 ..).2) (.node 60 (e2 60 (fun E a0 a1 A => (n60 mN E.call E.dcall E.lp a0 a1 A).1) fun _ _ _ _ => (n60 ..).2) (.node 59 (e4 59 (fun E a0 a1 a2 a3 A => (n59 mN E.call E.dcall E.lp a0 a1 a2 a3 A).1) fun _ _ _ _ _ _ => (n59 ..).2) (.leaf) (.leaf)) (.leaf)) (.node 62 (e2 62 (fun E a0 a1 A => (n62 mN E.call E.dcall E.lp a0 a1 A).1) fun _ _ _ _ => (n62 ..).2) (.leaf) (.leaf))))) (.node 73 (e2 73 (fun E a0 a1 A => (n73 mN E.call E.dcall E.lp a0 a1 A).1) fun _ _ _ _ => (n73 ..).2) (.node 68 (e2 68 (fun E a0 a1 A => (n68 mN E.call E.dcall E.lp a0 a1 A).1) fun _ _ _ _ => (n68 ..).2) (.node 66 (e2 66 (fun E a0 a1 A => (n66 mN E.call E.dcall E.lp a0 a1 A).1) fun _ _ _ _ => (n66 ..).2) (.node 65 (e1 65 (fun E a0 A => (n65 mN E.call E.dcall E.lp a0 A).1) fun _ _ _ => (n65 ..).2) (.node 64 (e1 64 (fun E a0 A => (n64 mN E.call E.dcall E.lp a0 A).1) fun _ _ _ => (n64 ..).2) (.leaf) (.leaf)) (.leaf)) (.node 67 (e1 67 (fun E a0 A => (n67 mN E.call E.dcall E.lp a0 A).1) fun _ _ _ => (n67 ..).2) (.leaf) (.leaf))) (.node 71 (e1 71 (fun E a0 A => (n71 mN E.call E.dcall E.lp a0 A).1) fun _ _ _ => (n71 ..).2) (.node 70 (e3 70 (fun E a0 a1 a2 A => (n70 mN E.call E.dcall E.lp a0 a1 a2 A).1) fun _ _ _ _ _ => (n70 ..).2) (.node 69 (e2 69 (fun E a0 a1 A => (n69 mN E.call E.dcall E.lp a0 a1 A).1) fun _ _ _ _ => (n69 ..).2) (.leaf) (.leaf)) (.leaf)) (.node 72 (e1 72 (fun E a0 A => (n72 mN E.call E.dcall E.lp a0 A).1) fun _ _ _ => (n72 ..).2) (.leaf) (.leaf)))) (.node 78 (e1 78 (fun E a0 A => (n78 mN E.call E.dcall E.lp a0 A).1) fun _ _ _ => (n78 ..).2) (.node 76 (e1 76 (fun E a0 A => (n76 mN E.call E.dcall E.lp a0 A).1) fun _ _ _ => (n76 ..).2) (.node 75 (e2 75 (fun E a0 a1 A => (n75 mN E.call E.dcall E.lp a0 a1 A).1) fun _ _ _ _ => (n75 ..).2) (.node 74 (e2 74 (fun E a0 a1 A => (n74 mN E.call E.dcall E.lp a0 a1 A).1) fun _ _ _ _ => (n74 ..).2) (.leaf) (.leaf)) (.leaf)) (.node 77 (e1 77 (fun E a0 A => (n77 mN E.call E.dcall E.lp a0 A).1) fun _ _ _ => (n77 ..).2) (.leaf) (.leaf))) (.node 81 (e2 81 (fun E a0 a1 A => (n81 mN E.call E.dcall E.lp a0 a1 A).1) fun _ _ _ _ => (n81 ..).2) (.node 80 (e1 80 (fun E a0 A => (n80 mN E.call E.dcall E.lp a0 A).1) fun _ _ _ => (n80 ..).2) (.node 79 (e1 79 (fun E a0 A => (n79 mN E.call E.dcall E.lp a0 A).1) fun _ _ _ => (n79 ..).2) (.leaf) (.leaf)) (.leaf)) (.node 82 (e3 82 (fun E a0 a1 a2 A => (n82 mN E.call E.dcall E.lp a0 a1 a2 A).1) fun _ _ _ _ _ => (n82 ..).2) (.leaf) (.leaf))))))) (.node 128 (e2 128 (fun E a0 a1 A => (n128 mN E.call E.dcall E.lp a0 a1 A).1) fun _ _ _ _ => (n128 ..).2) (.node 105 (e3 105 (fun E a0 a1 a2 A => (n105 mN E.call E.dcall E.lp a0 a1 a2 A).1) fun _ _ _ _ _ => (n105 ..).2) (.node 94 (e3 94 (fun E a0 a1 a2 A => (n94 mN E.call E.dcall E.lp a0 a1 a2 A).1) fun _ _ _ _ _ => (n94 ..).2) (.node 89 (e2 89 (fun E a0 a1 A => (n89 mN E.call E.dcall E.lp a0 a1 A).1) fun _ _ _ _ => (n89 ..).2) (.node 87 (e2 87 (fun E a0 a1 A => (n87 mN E.call E.dcall E.lp a0 a1 A).1) fun _ _ _ _ => (n87 ..).2) (.node 86 (e2 86 (fun E a0 a1 A => (n86 mN E.call E.dcall E.lp a0 a1 A).1) fun _ _ _ _ => (n86 ..).2) (.node 84 (e3 84 (fun E a0 a1 a2 A => (n84 mN E.call E.dcall E.lp a0 a1 a2 A).1) fun _ _ _ _ _ => (n84 ..).2) (.leaf) (.leaf)) (.leaf)) (.node 88 (e1 88 (fun E a0 A => (n88 mN E.call E.dcall E.lp a0 A).1) fun _ _ _ => (n88 ..).2) (.leaf) (.leaf))) (.node 92 (e1 92 (fun E a0 A => (n92 mN E.call E.dcall E.lp a0 A).1) fun _ _ _ => (n92 ..).2) (.node 91 (e1 91 (fun E a0 A => (n91 mN E.call E.dcall E.lp a0 A).1) fun _ _ _ => (n91 ..).2) (.node 90 (e0 90 (fun E  A => (n90 mN E.call E.dcall E.lp  A).1) fun _  _ => (n90 ..).2) (.leaf) (.leaf)) (.leaf)) (.node 93 (e1 93 (fun E a0 A => (n93 mN E.call E.dcall E.lp a0 A).1) fun _ _ _ => (n93 ..).2) (.leaf) (.leaf)))) (.node 99 (e2 99 (fun E a0 a1 A => (n99 mN E.call E.dcall E.lp a0 a1 A).1) fun _ _ _ _ => (n99 ..).2) (.node 97 (e2 97 (fun E a0 a1 A => (n97 mN E.call E.dcall E.lp a0 a1 A).1) fun _ _ _ _ => (n97 ..).2) (.node 96 (e1 96 (fun E a0 A => (n96 mN E.call E.dcall E.lp a0 A).1) fun _ _ _ => (n96 ..).2) (.node 95 (e2 95 (fun E a0 a1 A => (n95 mN E.call E.dcall E.lp a0 a1 A).1) fun _ _ _ _ => (n95 ..).2) (.leaf) (.leaf)) (.leaf)) (.node 98 (e1 98 (fun E a0 A => (n98 mN E.call E.dcall E.lp a0 A).1) fun _ _ _ => (n98 ..).2) (.leaf) (.leaf))) (.node 103 (e2 103 (fun E a0 a1 A => (n103 mN E.call E.dcall E.lp a0 a1 A).1) fun _ _ _ _ => (n103 ..).2) (.node 102 (e2 102 (fun E a0 a1 A => (n102 mN E.call E.dcall E.lp a0 a1 A).1) fun _ _ _ _ => (n102 ..).2) (.node 101 (e2 101 (fun E a0 a1 A => (n101 mN E.call E.dcall E.lp a0 a1 A).1) fun _ _ _ _ => (n101 ..).2) (.leaf) (.leaf)) (.leaf)) (.node 104 (e2 104 (fun E a0 a1 A => (n104 mN E.call E.dcall E.lp a0 a1 A).1) fun _ _ _ _ => (n104 ..).2) (.leaf) (.leaf))))) (.node 117 (e1 117 (fun E a0 A => (n117 mN E.call E.dcall E.lp a0 A).1) fun _ _ _ => (n117 ..).2) (.node 112 (e3 112 (fun E a0 a1 a2 A => (n112 mN E.call E.dcall E.lp a0 a1 a2 A).1) fun _ _ _ _ _ => (n112 ..).2) (.node 108 (e1 108 (fun E a0 A => (n108 mN E.call E.dcall E.lp a0 A).1) fun _ _ _ => (n108 ..).2) (.node 107 (e2 107 (fun E a0 a1 A => (n107 mN E.call E.dcall E.lp a0 a1 A).1) fun _ _ _ _ => (n107 ..).2) (.node 106 (e3 106 (fun E a0 a1 a2 A => (n106 mN E.call E.dcall E.lp a0 a1 a2 A).1) fun _ _ _ _ _ => (n106 ..).2) (.leaf) (.leaf)) (.leaf)) (.node 111 (e1 111 (fun E a0 A => (n111 mN E.call E.dcall E.lp a0 A).1) fun _ _ _ => (n111 ..).2) (.leaf) (.leaf))) (.node 115 (e2 115 (fun E a0 a1 A => (n115 mN E.call E.dcall E.lp a0 a1 A).1) fun _ _ _ _ => (n115 ..).2) (.node 114 (e2 114 (fun E a0 a1 A => (n114 mN E.call E.dcall E.lp a0 a1 A).1) fun _ _ _ _ => (n114 ..).2) (.node 113 (e1 113 (fun E a0 A => (n113 mN E.call E.dcall E.lp a0 A).1) fun _ _ _ => (n113 ..).2) (.leaf) (.leaf)) (.leaf)) (.node 116 (e1 116 (fun E a0 A => (n116 mN E.call E.dcall E.lp a0 A).1) fun _ _ _ => (n116 ..).2) (.leaf) (.leaf)))) (.node 123 (e1 123 (fun E a0 A => (n123 mN E.call E.dcall E.lp a0 A).1) fun _ _ _ => (n123 ..).2) (.node 120 (e2 120 (fun E a0 a1 A => (n120 mN E.call E.dcall E.lp a0 a1 A).1) fun _ _ _ _ => (n120 ..).2) (.node 119 (e2 119 (fun E a0 a1 A => (n119 mN E.call E.dcall E.lp a0 a1 A).1) fun _ _ _ _ => (n119 ..).2) (.node 118 (e2 118 (fun E a0 a1 A => (n118 mN E.call E.dcall E.lp a0 a1 A).1) fun _ _ _ _ => (n118 ..).2) (.leaf) (.leaf)) (.leaf)) (.node 121 (e2 121 (fun E a0 a1 A => (n121 mN E.call E.dcall E.lp a0 a1 A).1) fun _ _ _ _ => (n121 ..).2) (.leaf) (.leaf))) (.node 126 (e1 126 (fun E a0 A => (n126 mN E.call E.dcall E.lp a0 A).1) fun _ _ _ => (n126 ..).2) (.node 125 (e3 125 (fun E a0 a1 a2 A => (n125 mN E.call E.dcall E.lp a0 a1 a2 A).1) fun _ _ _ _ _ => (n125 ..).2) (.node 124 (e1 124 (fun E a0 A => (n124 mN E.call E.dcall E.lp a0 A).1) fun _ _ _ => (n124 ..).2) (.leaf) (.leaf)) (.leaf)) (.node 127 (e2 127 (fun E a0 a1 A => (n127 mN E.call E.dcall E.lp a0 a1 A).1) fun _ _ _ _ => (n127 ..).2) (.leaf) (.leaf)))))) (.node 153 (e2 153 (fun E a0 a1 A => (n153 mN E.call E.dcall E.lp a0 a1 A).1) fun _ _ _ _ => (n153 ..).2) (.node 140 (e2 140 (fun E a0 a1 A => (n140 mN E.call E.dcall E.lp a0 a1 A).1) fun _ _ _ _ => (n140 ..).2) (.node 135 (e4 135 (fun E a0 a1 a2 a3 A => (n135 mN E.call E.dcall E.lp a0 a1 a2 a3 A).1) fun _ _ _ _ _ _ => (n135 ..).2) (.node 133 (e3 133 (fun E a0 a1 a2 A => (n133 mN E.call E.dcall E.lp a0 a1 a2 A).1) fun _ _ _ _ _ => (n133 ..).2) (.node 132 (e2 132 (fun E a0 a1 A => (n132 mN E.call E.dcall E.lp a0 a1 A).1) fun _ _ _ _ => (n132 ..).2) (.node 131 (e2 131 (fun E a0 a1 A => (n131 mN E.call E.dcall E.lp a0 a1 A).1) fun _ _ _ _ => (n131 ..).2) (.leaf) (.leaf)) (.leaf)) (.node 134 (e2 134 (fun E a0 a1 A => (n134 mN E.call E.dcall E.lp a0 a1 A).1) fun _ _ _ _ => (n134 ..).2) (.leaf) (.leaf))) (.node 138 (e1 138 (fun E a0 A => (n138 mN E.call E.dcall E.lp a0 A).1) fun _ _ _ => (n138 ..).2) (.node 137 (e2 137 (fun E a0 a1 A => (n137 mN E.call E.dcall E.lp a0 a1 A).1) fun _ _ _ _ => (n137 ..).2) (.node 136 (e1 136 (fun E a0 A => (n136 mN E.call E.dcall E.lp a0 A).1) fun _ _ _ => (n136 ..).2) (.leaf) (.leaf)) (.leaf)) (.node 139 (e2 139 (fun E a0 a1 A => (n139 mN E.call E.dcall E.lp a0 a1 A).1) fun _ _ _ _ => (n139 ..).2) (.leaf) (.leaf)))) (.node 148 (e1 148 (fun E a0 A => (n148 mN E.call E.dcall E.lp a0 A).1) fun _ _ _ => (n148 ..).2) (.node 146 (e2 146 (fun E a0 a1 A => (n146 mN E.call E.dcall E.lp a0 a1 A).1) fun _ _ _ _ => (n146 ..).2) (.node 145 (e1 145 (fun E a0 A => (n145 mN E.call E.dcall E.lp a0 A).1) fun _ _ _ => (n145 ..).2) (.node 141 (e2 141 (fun E a0 a1 A => (n141 mN E.call E.dcall E.lp a0 a1 A).1) fun _ _ _ _ => (n141 ..).2) (.leaf) (.leaf)) (.leaf)) (.node 147 (e2 147 (fun E a0 a1 A => (n147 mN E.call E.dcall E.lp a0 a1 A).1) fun _ _ _ _ => (n147 ..).2) (.leaf) (.leaf))) (.node 151 (e1 151 (fun E a0 A => (n151 mN E.call E.dcall E.lp a0 A).1) fun _ _ _ => (n151 ..).2) (.node 150 (e1 150 (fun E a0 A => (n150 mN E.call E.dcall E.lp a0 A).1) fun _ _ _ => (n150 ..).2) (.node 149 (e1 149 (fun E a0 A => (n149 mN E.call E.dcall E.lp a0 A).1) fun _ _ _ => (n149 ..).2) (.leaf) (.leaf)) (.leaf)) (.node 152 (e2 152 (fun E a0 a1 A => (n152 mN E.call E.dcall E.lp a0 a1 A).1) fun _ _ _ _ => (n152 ..).2) (.leaf) (.leaf))))) (.node 172 (e1 172 (fun E a0 A => (n172 mN E.call E.dcall E.lp a0 A).1) fun _ _ _ => (n172 ..).2) (.node 162 (e2 162 (fun E a0 a1 A => (n162 mN E.call E.dcall E.lp a0 a1 A).1) fun _ _ _ _ => (n162 ..).2) (.node 160 (e2 160 (fun E a0 a1 A => (n160 mN E.call E.dcall E.lp a0 a1 A).1) fun _ _ _ _ => (n160 ..).2) (.node 159 (e1 159 (fun E a0 A => (n159 mN E.call E.dcall E.lp a0 A).1) fun _ _ _ => (n159 ..).2) (.node 158 (e2 158 (fun E a0 a1 A => (n158 mN E.call E.dcall E.lp a0 a1 A).1) fun _ _ _ _ => (n158 ..).2) (.leaf) (.leaf)) (.leaf)) (.node 161 (e2 161 (fun E a0 a1 A => (n161 mN E.call E.dcall E.lp a0 a1 A).1) fun _ _ _ _ => (n161 ..).2) (.leaf) (.leaf))) (.node 168 (e2 168 (fun E a0 a1 A => (n168 mN E.call E.dcall E.lp a0 a1 A).1) fun _ _ _ _ => (n168 ..).2) (.node 167 (e2 167 (fun E a0 a1 A => (n167 mN E.call E.dcall E.lp a0 a1 A).1) fun _ _ _ _ => (n167 ..).2) (.node 166 (e2 166 (fun E a0 a1 A => (n166 mN E.call E.dcall E.lp a0 a1 A).1) fun _ _ _ _ => (n166 ..).2) (.leaf) (.leaf)) (.leaf)) (.node 171 (e1 171 (fun E a0 A => (n171 mN E.call E.dcall E.lp a0 A).1) fun _ _ _ => (n171 ..).2) (.leaf) (.leaf)))) (.node 195 (e1 195 (fun E a0 A => (n195 mN E.call E.dcall E.lp a0 A).1) fun _ _ _ => (n195 ..).2) (.node 191 (e1 191 (fun E a0 A => (n191 mN E.call E.dcall E.lp a0 A).1) fun _ _ _ => (n191 ..).2) (.node 174 (e1 174 (fun E a0 A => (n174 mN E.call E.dcall E.lp a0 A).1) fun _ _ _ => (n174 ..).2) (.node 173 (e1 173 (fun E a0 A => (n173 mN E.call E.dcall E.lp a0 A).1) fun _ _ _ => (n173 ..).2) (.leaf) (.leaf)) (.leaf)) (.node 192 (e2 192 (fun E a0 a1 A => (n192 mN E.call E.dcall E.lp a0 a1 A).1) fun _ _ _ _ => (n192 ..).2) (.leaf) (.leaf))) (.node 204 (e1 204 (fun E a0 A => (n204 mN E.call E.dcall E.lp a0 A).1) fun _ _ _ => (n204 ..).2) (.node 196 (e1 196 (fun E a0 A => (n196 mN E.call E.dcall E.lp a0 A).1) fun _ _ _ => (n196 ..).2) (.leaf) (.leaf)) (.node 205 (e1 205 (fun E a0 A => (n205 mN E.call E.dcall E.lp a0 A).1) fun _ _ _ => (n205 ..).2) (.leaf) (.leaf)))))))
noncomputable def tL : Tree (List (LEnt Tryz.prog rxH.hint kk)) :=
 .node 82 ([l1 82 [0,1,0,1,1,1] (fun E A0 e A => (n82_0 mN E.call E.dcall E.lp A A0 e).1) rfl fun _ _ _ _ => (n82_0 ..).2]) (.node 41 ([l1 41 [0,1,0,1,1] (fun E A0 e A => (n41_0 mN E.call E.dcall E.lp A A0 e).1) rfl fun _ _ _ _ => (n41_0 ..).2]) (.node 18 ([l1 18 [0,1,0,1,1,1] (fun E A0 e A => (n18_0 mN E.call E.dcall E.lp A A0 e).1) rfl fun _ _ _ _ => (n18_0 ..).2,l1 18 [0,1,0,1,1,1,1,1,1,1] (fun E A0 e A => (n18_1 mN E.call E.dcall E.lp A A0 e).1) rfl fun _ _ _ _ => (n18_1 ..).2,l2 18 [0,1,1,0,0,1,1,0,0,1,0,1,1,1,1,1,1,1] (fun E A0 A1 e A => (n18_2 mN E.call E.dcall E.lp A A0 A1 e).1) rfl fun _ _ _ _ _ => (n18_2 ..).2]) (.node 10 ([l1 10 [0,1,0,1,1] (fun E A0 e A => (n10_0 mN E.call E.dcall E.lp A A0 e).1) rfl fun _ _ _ _ => (n10_0 ..).2]) (.node 8 ([l1 8 [0,1,0,1,1,1,1] (fun E A0 e A => (n8_0 mN E.call E.dcall E.lp A A0 e).1) rfl fun _ _ _ _ => (n8_0 ..).2]) (.node 6 ([l1 6 [0,1,0,1,1,1,1] (fun E A0 e A => (n6_0 mN E.call E.dcall E.lp A A0 e).1) rfl fun _ _ _ _ => (n6_0 ..).2]) (.node 5 ([l1 5 [0,1,0,1,1,1,1,1,1] (fun E A0 e A => (n5_0 mN E.call E.dcall E.lp A A0 e).1) rfl fun _ _ _ _ => (n5_0 ..).2]) (.leaf) (.leaf)) (.leaf)) (.node 9 ([l1 9 [0,1,0,1,1,1,1] (fun E A0 e A => (n9_0 mN E.call E.dcall E.lp A A0 e).1) rfl fun _ _ _ _ => (n9_0 ..).2]) (.leaf) (.leaf))) (.node 14 ([l1 14 [0,1,0,1,1] (fun E A0 e A => (n14_0 mN E.call E.dcall E.lp A A0 e).1) rfl fun _ _ _ _ => (n14_0 ..).2]) (.node 13 ([l1 13 [0,1,0,1,1] (fun E A0 e A => (n13_0 mN E.call E.dcall E.lp A A0 e).1) rfl fun _ _ _ _ => (n13_0 ..).2]) (.node 12 ([l1 12 [0,1,0,1,1,1] (fun E A0 e A => (n12_0 mN E.call E.dcall E.lp A A0 e).1) rfl fun _ _ _ _ => (n12_0 ..).2]) (.leaf) (.leaf)) (.leaf)) (.node 15 ([l1 15 [0,1,0,1,1,1] (fun E A0 e A => (n15_0 mN E.call E.dcall E.lp A A0 e).1) rfl fun _ _ _ _ => (n15_0 ..).2]) (.leaf) (.leaf)))) (.node 30 ([l1 30 [0,0,1,1,1,1,1,1,1,1] (fun E A0 e A => (n30_0 mN E.call E.dcall E.lp A A0 e).1) rfl fun _ _ _ _ => (n30_0 ..).2]) (.node 25 ([l1 25 [0,1,0,1,1,1,1,1,1,1,1,1,1,1,1] (fun E A0 e A => (n25_0 mN E.call E.dcall E.lp A A0 e).1) rfl fun _ _ _ _ => (n25_0 ..).2]) (.node 22 ([l1 22 [0,1,0,1,1,1,1,1,1,1,1] (fun E A0 e A => (n22_0 mN E.call E.dcall E.lp A A0 e).1) rfl fun _ _ _ _ => (n22_0 ..).2]) (.node 21 ([l1 21 [0,1,0,1,1,1,1,1] (fun E A0 e A => (n21_0 mN E.call E.dcall E.lp A A0 e).1) rfl fun _ _ _ _ => (n21_0 ..).2]) (.leaf) (.leaf)) (.leaf)) (.node 29 ([l1 29 [0,1,0,1,1,1,1] (fun E A0 e A => (n29_0 mN E.call E.dcall E.lp A A0 e).1) rfl fun _ _ _ _ => (n29_0 ..).2]) (.leaf) (.leaf))) (.node 38 ([l1 38 [0,1,0,1,1] (fun E A0 e A => (n38_0 mN E.call E.dcall E.lp A A0 e).1) rfl fun _ _ _ _ => (n38_0 ..).2]) (.node 34 ([l1 34 [0,1,0,1,1] (fun E A0 e A => (n34_0 mN E.call E.dcall E.lp A A0 e).1) rfl fun _ _ _ _ => (n34_0 ..).2]) (.node 31 ([l1 31 [0,1,0,1] (fun E A0 e A => (n31_0 mN E.call E.dcall E.lp A A0 e).1) rfl fun _ _ _ _ => (n31_0 ..).2]) (.leaf) (.leaf)) (.leaf)) (.node 40 ([l1 40 [0,1,0,1,1] (fun E A0 e A => (n40_0 mN E.call E.dcall E.lp A A0 e).1) rfl fun _ _ _ _ => (n40_0 ..).2]) (.leaf) (.leaf))))) (.node 58 ([l1 58 [0,1,0,1] (fun E A0 e A => (n58_0 mN E.call E.dcall E.lp A A0 e).1) rfl fun _ _ _ _ => (n58_0 ..).2]) (.node 49 ([l1 49 [0,1,0,1] (fun E A0 e A => (n49_0 mN E.call E.dcall E.lp A A0 e).1) rfl fun _ _ _ _ => (n49_0 ..).2]) (.node 47 ([l1 47 [0,1,0,1,1] (fun E A0 e A => (n47_0 mN E.call E.dcall E.lp A A0 e).1) rfl fun _ _ _ _ => (n47_0 ..).2,l1 47 [0,1,0,1,1,1,1,1,1] (fun E A0 e A => (n47_1 mN E.call E.dcall E.lp A A0 e).1) rfl fun _ _ _ _ => (n47_1 ..).2,l2 47 [0,1,0,0,1,0,0,1,0,1,1,1,1,1,1] (fun E A0 A1 e A => (n47_2 mN E.call E.dcall E.lp A A0 A1 e).1) rfl fun _ _ _ _ _ => (n47_2 ..).2]) (.node 46 ([l1 46 [0,1,0,1] (fun E A0 e A => (n46_0 mN E.call E.dcall E.lp A A0 e).1) rfl fun _ _ _ _ => (n46_0 ..).2,l1 46 [0,1,0,1,1,1] (fun E A0 e A => (n46_1 mN E.call E.dcall E.lp A A0 e).1) rfl fun _ _ _ _ => (n46_1 ..).2]) (.node 45 ([l1 45 [0,1,0,1,1] (fun E A0 e A => (n45_0 mN E.call E.dcall E.lp A A0 e).1) rfl fun _ _ _ _ => (n45_0 ..).2]) (.leaf) (.leaf)) (.leaf)) (.node 48 ([l1 48 [0,1,0,1] (fun E A0 e A => (n48_0 mN E.call E.dcall E.lp A A0 e).1) rfl fun _ _ _ _ => (n48_0 ..).2]) (.leaf) (.leaf))) (.node 54 ([l1 54 [0,1,0,1,1] (fun E A0 e A => (n54_0 mN E.call E.dcall E.lp A A0 e).1) rfl fun _ _ _ _ => (n54_0 ..).2,l1 54 [0,1,0,1,1,1,1] (fun E A0 e A => (n54_1 mN E.call E.dcall E.lp A A0 e).1) rfl fun _ _ _ _ => (n54_1 ..).2]) (.node 52 ([l1 52 [0,1,0,1,1] (fun E A0 e A => (n52_0 mN E.call E.dcall E.lp A A0 e).1) rfl fun _ _ _ _ => (n52_0 ..).2]) (.node 50 ([l1 50 [0,1,0,1] (fun E A0 e A => (n50_0 mN E.call E.dcall E.lp A A0 e).1) rfl fun _ _ _ _ => (n50_0 ..).2]) (.leaf) (.leaf)) (.leaf)) (.node 56 ([l1 56 [0,1,0,1,1] (fun E A0 e A => (n56_0 mN E.call E.dcall E.lp A A0 e).1) rfl fun _ _ _ _ => (n56_0 ..).2,l1 56 [0,1,0,1,1,1] (fun E A0 e A => (n56_1 mN E.call E.dcall E.lp A A0 e).1) rfl fun _ _ _ _ => (n56_1 ..).2]) (.leaf) (.leaf)))) (.node 73 ([l1 73 [0,0,1,1] (fun E A0 e A => (n73_0 mN E.call E.dcall E.lp A A0 e).1) rfl fun _ _ _ _ => (n73_0 ..).2]) (.node 68 ([l1 68 [0,1,0,1] (fun E A0 e A => (n68_0 mN E.call E.dcall E.lp A A0 e).1) rfl fun _ _ _ _ => (n68_0 ..).2]) (.node 65 ([l1 65 [0,1,1] (fun E A0 e A => (n65_0 mN E.call E.dcall E.lp A A0 e).1) rfl fun _ _ _ _ => (n65_0 ..).2]) (.node 61 ([l1 61 [0] (fun E A0 e A => (n61_0 mN E.call E.dcall E.lp A A0 e).1) rfl fun _ _ _ _ => (n61_0 ..).2]) (.leaf) (.leaf)) (.leaf)) (.node 69 ([l1 69 [0,1,0,1,1] (fun E A0 e A => (n69_0 mN E.call E.dcall E.lp A A0 e).1) rfl fun _ _ _ _ => (n69_0 ..).2]) (.leaf) (.leaf))) (.node 80 ([l1 80 [0,1,0] (fun E A0 e A => (n80_0 mN E.call E.dcall E.lp A A0 e).1) rfl fun _ _ _ _ => (n80_0 ..).2,l1 80 [0,1,1] (fun E A0 e A => (n80_1 mN E.call E.dcall E.lp A A0 e).1) rfl fun _ _ _ _ => (n80_1 ..).2]) (.node 75 ([l1 75 [0,1,0,1] (fun E A0 e A => (n75_0 mN E.call E.dcall E.lp A A0 e).1) rfl fun _ _ _ _ => (n75_0 ..).2]) (.leaf) (.leaf)) (.node 81 ([l1 81 [0,1,0,1,1] (fun E A0 e A => (n81_0 mN E.call E.dcall E.lp A A0 e).1) rfl fun _ _ _ _ => (n81_0 ..).2]) (.leaf) (.leaf)))))) (.node 119 ([l1 119 [0,1,0,1,1] (fun E A0 e A => (n119_0 mN E.call E.dcall E.lp A A0 e).1) rfl fun _ _ _ _ => (n119_0 ..).2]) (.node 101 ([l1 101 [0,1,0,1] (fun E A0 e A => (n101_0 mN E.call E.dcall E.lp A A0 e).1) rfl fun _ _ _ _ => (n101_0 ..).2]) (.node 95 ([l1 95 [0,1,0,1,1] (fun E A0 e A => (n95_0 mN E.call E.dcall E.lp A A0 e).1) rfl fun _ _ _ _ => (n95_0 ..).2]) (.node 87 ([l1 87 [0,1,0,1,1,1] (fun E A0 e A => (n87_0 mN E.call E.dcall E.lp A A0 e).1) rfl fun _ _ _ _ => (n87_0 ..).2]) (.node 86 ([l1 86 [0,1,0,0,1,1,1,1,1,1,1,0,1,0,1,1,1] (fun E A0 e A => (n86_0 mN E.call E.dcall E.lp A A0 e).1) rfl fun _ _ _ _ => (n86_0 ..).2,l1 86 [0,1,0,1,0,1,1,1,1,1,1,1,1,1,0,1,0,1,1,1] (fun E A0 e A => (n86_1 mN E.call E.dcall E.lp A A0 e).1) rfl fun _ _ _ _ => (n86_1 ..).2]) (.node 84 ([l1 84 [0,1,0,1,1] (fun E A0 e A => (n84_0 mN E.call E.dcall E.lp A A0 e).1) rfl fun _ _ _ _ => (n84_0 ..).2]) (.leaf) (.leaf)) (.leaf)) (.node 94 ([l1 94 [0,1,0,1,1,1] (fun E A0 e A => (n94_0 mN E.call E.dcall E.lp A A0 e).1) rfl fun _ _ _ _ => (n94_0 ..).2]) (.leaf) (.leaf))) (.node 98 ([l1 98 [0,1,0,1,1] (fun E A0 e A => (n98_0 mN E.call E.dcall E.lp A A0 e).1) rfl fun _ _ _ _ => (n98_0 ..).2,l2 98 [0,1,1,1,0,0,1,1,0,0,1,0,1,1] (fun E A0 A1 e A => (n98_1 mN E.call E.dcall E.lp A A0 A1 e).1) rfl fun _ _ _ _ _ => (n98_1 ..).2]) (.node 97 ([l1 97 [0,1,0,1] (fun E A0 e A => (n97_0 mN E.call E.dcall E.lp A A0 e).1) rfl fun _ _ _ _ => (n97_0 ..).2]) (.node 96 ([l1 96 [0,1,0,1,1] (fun E A0 e A => (n96_0 mN E.call E.dcall E.lp A A0 e).1) rfl fun _ _ _ _ => (n96_0 ..).2]) (.leaf) (.leaf)) (.leaf)) (.node 99 ([l1 99 [0,1,0,1,1,1] (fun E A0 e A => (n99_0 mN E.call E.dcall E.lp A A0 e).1) rfl fun _ _ _ _ => (n99_0 ..).2]) (.leaf) (.leaf)))) (.node 111 ([l1 111 [0,1,0,1,1,1] (fun E A0 e A => (n111_0 mN E.call E.dcall E.lp A A0 e).1) rfl fun _ _ _ _ => (n111_0 ..).2]) (.node 105 ([l1 105 [0,1,0,1,1] (fun E A0 e A => (n105_0 mN E.call E.dcall E.lp A A0 e).1) rfl fun _ _ _ _ => (n105_0 ..).2]) (.node 104 ([l1 104 [0,1,0,1,1,1,1] (fun E A0 e A => (n104_0 mN E.call E.dcall E.lp A A0 e).1) rfl fun _ _ _ _ => (n104_0 ..).2]) (.node 103 ([l1 103 [0,1,0,1] (fun E A0 e A => (n103_0 mN E.call E.dcall E.lp A A0 e).1) rfl fun _ _ _ _ => (n103_0 ..).2]) (.leaf) (.leaf)) (.leaf)) (.node 108 ([l1 108 [0,0,1,1,1,1,1] (fun E A0 e A => (n108_0 mN E.call E.dcall E.lp A A0 e).1) rfl fun _ _ _ _ => (n108_0 ..).2]) (.leaf) (.leaf))) (.node 116 ([l1 116 [0,1,0,1,1,1] (fun E A0 e A => (n116_0 mN E.call E.dcall E.lp A A0 e).1) rfl fun _ _ _ _ => (n116_0 ..).2]) (.node 115 ([l1 115 [0,0,1,1,1,1] (fun E A0 e A => (n115_0 mN E.call E.dcall E.lp A A0 e).1) rfl fun _ _ _ _ => (n115_0 ..).2]) (.node 113 ([l1 113 [0,0,1,1] (fun E A0 e A => (n113_0 mN E.call E.dcall E.lp A A0 e).1) rfl fun _ _ _ _ => (n113_0 ..).2]) (.leaf) (.leaf)) (.leaf)) (.node 117 ([l1 117 [0,0,1,1] (fun E A0 e A => (n117_0 mN E.call E.dcall E.lp A A0 e).1) rfl fun _ _ _ _ => (n117_0 ..).2]) (.leaf) (.leaf))))) (.node 153 ([l1 153 [0,1,0,1] (fun E A0 e A => (n153_0 mN E.call E.dcall E.lp A A0 e).1) rfl fun _ _ _ _ => (n153_0 ..).2]) (.node 145 ([l1 145 [0,1,0,1,1] (fun E A0 e A => (n145_0 mN E.call E.dcall E.lp A A0 e).1) rfl fun _ _ _ _ => (n145_0 ..).2]) (.node 134 ([l1 134 [0,1,0,1,1,1] (fun E A0 e A => (n134_0 mN E.call E.dcall E.lp A A0 e).1) rfl fun _ _ _ _ => (n134_0 ..).2]) (.node 132 ([l1 132 [0,1,0,1] (fun E A0 e A => (n132_0 mN E.call E.dcall E.lp A A0 e).1) rfl fun _ _ _ _ => (n132_0 ..).2]) (.node 125 ([l1 125 [0,1,0,1,0,1,1,1,1,1,1,1,0,1,0,1,1,1] (fun E A0 e A => (n125_0 mN E.call E.dcall E.lp A A0 e).1) rfl fun _ _ _ _ => (n125_0 ..).2,l1 125 [0,1,0,0,1,1,1,1,1,1,1,1,1,0,1,0,1,1,1] (fun E A0 e A => (n125_1 mN E.call E.dcall E.lp A A0 e).1) rfl fun _ _ _ _ => (n125_1 ..).2]) (.leaf) (.leaf)) (.leaf)) (.node 135 ([l1 135 [0,0,0,1,0] (fun E A0 e A => (n135_0 mN E.call E.dcall E.lp A A0 e).1) rfl fun _ _ _ _ => (n135_0 ..).2,l1 135 [0,0,1] (fun E A0 e A => (n135_1 mN E.call E.dcall E.lp A A0 e).1) rfl fun _ _ _ _ => (n135_1 ..).2]) (.leaf) (.leaf))) (.node 150 ([l1 150 [0,0,1,1] (fun E A0 e A => (n150_0 mN E.call E.dcall E.lp A A0 e).1) rfl fun _ _ _ _ => (n150_0 ..).2]) (.node 149 ([l1 149 [0,1,0,1] (fun E A0 e A => (n149_0 mN E.call E.dcall E.lp A A0 e).1) rfl fun _ _ _ _ => (n149_0 ..).2]) (.node 147 ([l1 147 [0,1,0,1,1] (fun E A0 e A => (n147_0 mN E.call E.dcall E.lp A A0 e).1) rfl fun _ _ _ _ => (n147_0 ..).2]) (.leaf) (.leaf)) (.leaf)) (.node 152 ([l1 152 [0,1,0,1,1,1] (fun E A0 e A => (n152_0 mN E.call E.dcall E.lp A A0 e).1) rfl fun _ _ _ _ => (n152_0 ..).2]) (.leaf) (.leaf)))) (.node 171 ([l1 171 [0,1,1] (fun E A0 e A => (n171_0 mN E.call E.dcall E.lp A A0 e).1) rfl fun _ _ _ _ => (n171_0 ..).2]) (.node 162 ([l1 162 [0,1,0,1] (fun E A0 e A => (n162_0 mN E.call E.dcall E.lp A A0 e).1) rfl fun _ _ _ _ => (n162_0 ..).2]) (.node 159 ([l1 159 [0,1,0,1,1] (fun E A0 e A => (n159_0 mN E.call E.dcall E.lp A A0 e).1) rfl fun _ _ _ _ => (n159_0 ..).2]) (.node 158 ([l1 158 [0,1,0,1] (fun E A0 e A => (n158_0 mN E.call E.dcall E.lp A A0 e).1) rfl fun _ _ _ _ => (n158_0 ..).2]) (.leaf) (.leaf)) (.leaf)) (.node 166 ([l1 166 [0,0,1,1,1,1,1,1,1,1] (fun E A0 e A => (n166_0 mN E.call E.dcall E.lp A A0 e).1) rfl fun _ _ _ _ => (n166_0 ..).2]) (.leaf) (.leaf))) (.node 192 ([l1 192 [0,1,0,1,1,1,1] (fun E A0 e A => (n192_0 mN E.call E.dcall E.lp A A0 e).1) rfl fun _ _ _ _ => (n192_0 ..).2,l1 192 [0,1,0,1,1,1,1,1,1] (fun E A0 e A => (n192_1 mN E.call E.dcall E.lp A A0 e).1) rfl fun _ _ _ _ => (n192_1 ..).2]) (.node 173 ([l1 173 [0,0,1,1] (fun E A0 e A => (n173_0 mN E.call E.dcall E.lp A A0 e).1) rfl fun _ _ _ _ => (n173_0 ..).2]) (.leaf) (.leaf)) (.node 204 ([l1 204 [0,1,0,1,1] (fun E A0 e A => (n204_0 mN E.call E.dcall E.lp A A0 e).1) rfl fun _ _ _ _ => (n204_0 ..).2,l1 204 [0,1,0,1,1,1,1] (fun E A0 e A => (n204_1 mN E.call E.dcall E.lp A A0 e).1) rfl fun _ _ _ _ => (n204_1 ..).2]) (.leaf) (.leaf))))))
noncomputable def ev (n : Nat) : Ev:=evT Tryz.prog rxH kk 207 tF tL n
theorem ev_ok (n : Nat) : EvOk Tryz.prog rxH (ev n):=evT_ok tF tL (fun _ h => okf h) n
end Go.Vm.Rx

/- awake answers true: reckoned. -/
namespace Go.Vm.Rx
open Go.Proofs
set_option maxRecDepth 100000
def isTrue : ORes → Bool
  | some (.ret (.bool true),_) => true
  | _ => false
theorem alive_ev : isTrue ((ev 100000).call 11 [] []) = true:=by kernel_rfl
theorem alive_run : ∃ A',Run Tryz.prog rxH 11 [] [] = some (.ret (.bool true),A'):=by
  have h:=alive_ev
  revert h
  cases hr : (ev 100000).call 11 [] [] with
  | none => intro h; cases h
  | some r =>
    intro h
    obtain ⟨d,A'⟩:=r
    unfold isTrue at h
    split at h
    · rename_i A'' e
      cases e
      exact ⟨_,(ev_ok 100000).call _ _ _ _ hr⟩
    · cases h
end Go.Vm.Rx
