/- VmTbl, RxT, RxAlive, RxX, RxArgI in one text. -/
import Derived.Test.YtagmpieoalkneaaGreatDoorVmClosed
import Derived.Test.YtagmpieoalkneaaGreatDoorRxN1
import Derived.Test.YtagmpieoalkneaaGreatDoorRxN3
import Derived.Test.YtagmpieoalkneaaGreatDoorRxN5
import Derived.KernelRfl
import Derived.Test.YtagmpieoalkneaaGreatDoorVmSimp
import Derived.Shelf.Spec.SlicesGrow
import Derived.Lib.Bytealg
import Derived.Test.YtagmpieoalkneaaGreatDoorVmSort
import Derived.Test.YtagmpieoalkneaaGreatDoorRxOk
import Derived.Test.YtagmpieoalkneaaGreatDoorRxI6
import Derived.Test.YtagmpieoalkneaaGreatDoorRows
set_option linter.all false
/- The run reckoned over normal forms: tables of functions and loops. -/
namespace Go.Vm

section
variable (P:Program) (hint:FuncId→Hints) (JJ:FuncId→KH)
structure Ent where
 f:FuncId
 run:Ev→List D→St→ORes
 ok:∀ E x A,OLe (run E x A) (bodyR mN P hint JJ E.call E.dcall E.lp f x A)
structure LEnt where
 f:FuncId
 q:List Nat
 run:Ev→List St→Env→St→ORes
 ok:∀ E ss e A,run E ss e A=none∨(((P.funcs[f]?).bind fun fn=>fn.body.map fun c=>lvl c q+1)=some ss.length∧OLe (run E ss e A) (loopB mN P hint JJ E.call E.dcall E.lp f q ss e A))
inductive Tree (α:Type) where
 | leaf
 | node (k:Nat) (a:α) (l r:Tree α)
end
def Tree.get {α:Type} (t:Tree α) (k:Nat):Option α :=
 match t with
 | .leaf=>none
 | .node j a l r=>cond (Nat.beq k j) (some a) (cond (Nat.ble k j) (l.get k) (r.get k))
section
variable {P:Program} {hint:FuncId→Hints} {JJ:FuncId→KH}
def e0 (f:FuncId) (g:Ev→St→ORes) (h:∀ E A,bodyR mN P hint JJ E.call E.dcall E.lp f [] A=g E A):Ent P hint JJ :=
 ⟨f,fun E x A=>match x with|[]=>g E A|_=>none,fun E x A=>by
  cases x with
  | nil=>exact OLe.of_eq (h E A).symm
  | cons a x=>exact OLe.none _⟩
def e1 (f:FuncId) (g:Ev→D→St→ORes) (h:∀ E a A,bodyR mN P hint JJ E.call E.dcall E.lp f [a] A=g E a A):Ent P hint JJ :=
 ⟨f,fun E x A=>match x with|[a]=>g E a A|_=>none,fun E x A=>by
  split
  ·exact OLe.of_eq (h E _ A).symm
  ·exact OLe.none _⟩
def e2 (f:FuncId) (g:Ev→D→D→St→ORes) (h:∀ E a b A,bodyR mN P hint JJ E.call E.dcall E.lp f [a,b] A=g E a b A):Ent P hint JJ :=
 ⟨f,fun E x A=>match x with|[a,b]=>g E a b A|_=>none,fun E x A=>by
  split
  ·exact OLe.of_eq (h E _ _ A).symm
  ·exact OLe.none _⟩
def e3 (f:FuncId) (g:Ev→D→D→D→St→ORes) (h:∀ E a b c A,bodyR mN P hint JJ E.call E.dcall E.lp f [a,b,c] A=g E a b c A):Ent P hint JJ :=
 ⟨f,fun E x A=>match x with|[a,b,c]=>g E a b c A|_=>none,fun E x A=>by
  split
  ·exact OLe.of_eq (h E _ _ _ A).symm
  ·exact OLe.none _⟩
def e4 (f:FuncId) (g:Ev→D→D→D→D→St→ORes) (h:∀ E a b c d A,bodyR mN P hint JJ E.call E.dcall E.lp f [a,b,c,d] A=g E a b c d A):Ent P hint JJ :=
 ⟨f,fun E x A=>match x with|[a,b,c,d]=>g E a b c d A|_=>none,fun E x A=>by
  split
  ·exact OLe.of_eq (h E _ _ _ _ A).symm
  ·exact OLe.none _⟩
def e5 (f:FuncId) (g:Ev→D→D→D→D→D→St→ORes) (h:∀ E a b c d i A,bodyR mN P hint JJ E.call E.dcall E.lp f [a,b,c,d,i] A=g E a b c d i A):Ent P hint JJ :=
 ⟨f,fun E x A=>match x with|[a,b,c,d,i]=>g E a b c d i A|_=>none,fun E x A=>by
  split
  ·exact OLe.of_eq (h E _ _ _ _ _ A).symm
  ·exact OLe.none _⟩
def l1 (f:FuncId) (q:List Nat) (g:Ev→St→Env→St→ORes) (hl:((P.funcs[f]?).bind fun fn=>fn.body.map fun c=>lvl c q+1)=some 1) (h:∀ E B e A,loopB mN P hint JJ E.call E.dcall E.lp f q [B] e A=g E B e A):LEnt P hint JJ :=
 ⟨f,q,fun E ss e A=>match ss with|[B]=>g E B e A|_=>none,fun E ss e A=>by
  split
  ·exact .inr ⟨hl,OLe.of_eq (h E _ e A).symm⟩
  ·exact .inl rfl⟩
def l2 (f:FuncId) (q:List Nat) (g:Ev→St→St→Env→St→ORes) (hl:((P.funcs[f]?).bind fun fn=>fn.body.map fun c=>lvl c q+1)=some 2) (h:∀ E B C e A,loopB mN P hint JJ E.call E.dcall E.lp f q [C,B] e A=g E B C e A):LEnt P hint JJ :=
 ⟨f,q,fun E ss e A=>match ss with|[C,B]=>g E B C e A|_=>none,fun E ss e A=>by
  split
  ·exact .inr ⟨hl,OLe.of_eq (h E _ _ e A).symm⟩
  ·exact .inl rfl⟩
def natsB:List Nat→List Nat→Bool
 | [],[]=>true
 | a::r,b::s=>cond (Nat.beq a b) (natsB r s) false
 | _,_=>false
theorem natsB_eq:∀ {a b:List Nat},natsB a b=true→a=b
 | [],[],_=>rfl
 | a::r,b::s,h=>by
  unfold natsB at h
  cases hb:Nat.beq a b with
  | false=>rw [hb] at h;cases h
  | true=>rw [hb] at h;rw [Nat.eq_of_beq_eq_true hb,natsB_eq h]
 | [],_::_,h=>by cases h
 | _::_,[],h=>by cases h
def lpGo (E:Ev) (f:FuncId) (q:List Nat) (ss:List St) (e:Env) (A:St):List (LEnt P hint JJ)→ORes
 | []=>none
 | x::r=>cond (natsB q x.q) (cond (Nat.beq f x.f) (x.run E ss e A) none) (lpGo E f q ss e A r)
end
section
variable (P:Program) (H:Ext0) (JJ:FuncId→KH) (N:Nat) (T:Tree (Ent P H.hint JJ)) (L:Tree (List (LEnt P H.hint JJ)))
noncomputable def evtStep (E:Ev):Ev where
 call f args A:=match Nat.beq f rOff with
  | true=>(evStep P H JJ E).call f args A
  | false=>match H.ext f with
   | some x=>x args A
   | none=>match Nat.blt f N with
    | true=>match T.get f with
     | some x=>cond (Nat.beq x.f f) (x.run E (canA (H.hint f) args) A) none
     | none=>none
    | false=>none
 dcall:=(evStep P H JJ E).dcall
 lp f q ss e A:=match Nat.blt f N with
  | true=>match L.get f with
   | some l=>lpGo E f q ss e A l
   | none=>none
  | false=>none
noncomputable def evT:Nat→Ev
 | 0=>⟨fun _ _ _=>none,fun _ _ _ _=>none,fun _ _ _ _ _=>none⟩
 | n+1=>evtStep P H JJ N T L (evT n)
variable {P H JJ N} (okN:∀ f,Nat.blt f N=true→okF P H.hint JJ f=true)
include okN
theorem evtStep_ok {E:Ev} (ok:EvOk P H E):EvOk P H (evtStep P H JJ N T L E):=by
 have s:=evStep_ok P H JJ ok
 refine ⟨fun f args A=>?_,s.dcall,fun f q ss e A=>?_⟩
 ·simp only [evtStep]
  cases hf:Nat.beq f rOff with
  | true=>exact s.call f args A
  | false =>
   have hc:=s.call f args A
   simp only [evStep,hf] at hc
   cases hx:H.ext f with
   | some x=>rw [hx] at hc;exact hc
   | none =>
    rw [hx] at hc
    simp only []
    cases hb:Nat.blt f N with
    | false=>exact OLe.none _
    | true =>
     simp only [okN f hb] at hc
     simp only []
     cases T.get f with
     | none=>exact OLe.none _
     | some x =>
      simp only []
      cases he:Nat.beq x.f f with
      | false=>exact OLe.none _
      | true =>
       have:=Nat.eq_of_beq_eq_true he
       subst this
       exact (x.ok E _ A).trans hc
 ·have key:∀ l:List (LEnt P H.hint JJ),Nat.blt f N=true→OLe (lpGo E f q ss e A l) (LP P H f q ss e A):=by
   intro l hb
   induction l with
   | nil=>exact OLe.none _
   | cons x r ih =>
    unfold lpGo
    cases hq:natsB q x.q with
    | false=>exact ih
    | true =>
     rw [cond_true]
     cases hf:Nat.beq f x.f with
     | false=>exact OLe.none _
     | true =>
      have h1:=natsB_eq hq
      have h2:=Nat.eq_of_beq_eq_true hf
      subst h1;subst h2
      rw [cond_true]
      rcases x.ok E ss e A with h|⟨h,k⟩
      ·rw [h];exact OLe.none _
      ·refine k.trans ?_
       rw [LP_eq P H JJ (okN _ hb) h]
       unfold loopB
       refine (OLe.refl _).bind fun fn=>(OLe.refl _).bind fun c0=>?_
       split
       ·simp only [genK_eq]
        exact codeR_le mN_le ok.call _ (ok.lp _) _ _ _ _ _ fun o=>loopK_le mN_le rfl rfl (ok.lp _) _ _ _ (fun o=>contR_le mN_le ok.call _ (ok.lp _) _ (fun A o=>K0_le mN_le rfl rfl ok.dcall _ _ _) _ _ _) _ _
       ·exact OLe.none _
  simp only [evtStep]
  cases hb:Nat.blt f N with
  | false=>exact OLe.none _
  | true =>
   simp only []
   cases L.get f with
   | none=>exact OLe.none _
   | some l=>exact key l hb
theorem evT_ok:∀ n,EvOk P H (evT P H JJ N T L n)
 | 0=>⟨fun _ _ _=>OLe.none _,fun _ _ _ _=>OLe.none _,fun _ _ _ _ _=>OLe.none _⟩
 | n+1=>evtStep_ok T L okN (evT_ok n)
end
end Go.Vm

/- The functions' normal forms,by their numbers. -/
namespace Go.Vm.Rx
open Go.Proofs
set_option maxRecDepth 100000
set_option maxHeartbeats 0
noncomputable def tF:Tree (Ent Tryz.prog rxH.hint kk) :=
 .node 83 (e1 83 (fun E a0 A=>(n83 mN E.call E.dcall E.lp a0 A).1) fun _ _ _=>(n83 ..).2) (.node 54 (e1 54 (fun E a0 A=>(n54 mN E.call E.dcall E.lp a0 A).1) fun _ _ _=>(n54 ..).2) (.node 27 (e2 27 (fun E a0 a1 A=>(n27 mN E.call E.dcall E.lp a0 a1 A).1) fun _ _ _ _=>(n27 ..).2) (.node 23 (e1 23 (fun E a0 A=>(n23 mN E.call E.dcall E.lp a0 A).1) fun _ _ _=>(n23 ..).2) (.node 14 (e1 14 (fun E a0 A=>(n14 mN E.call E.dcall E.lp a0 A).1) fun _ _ _=>(n14 ..).2) (.node 11 (e0 11 (fun E  A=>(n11 mN E.call E.dcall E.lp  A).1) fun _  _=>(n11 ..).2) (.node 8 (e1 8 (fun E a0 A=>(n8 mN E.call E.dcall E.lp a0 A).1) fun _ _ _=>(n8 ..).2) (.leaf) (.leaf)) (.leaf)) (.node 18 (e1 18 (fun E a0 A=>(n18 mN E.call E.dcall E.lp a0 A).1) fun _ _ _=>(n18 ..).2) (.leaf) (.leaf))) (.node 25 (e1 25 (fun E a0 A=>(n25 mN E.call E.dcall E.lp a0 A).1) fun _ _ _=>(n25 ..).2) (.node 24 (e4 24 (fun E a0 a1 a2 a3 A=>(n24 mN E.call E.dcall E.lp a0 a1 a2 a3 A).1) fun _ _ _ _ _ _=>(n24 ..).2) (.leaf) (.leaf)) (.node 26 (e2 26 (fun E a0 a1 A=>(n26 mN E.call E.dcall E.lp a0 a1 A).1) fun _ _ _ _=>(n26 ..).2) (.leaf) (.leaf)))) (.node 37 (e1 37 (fun E a0 A=>(n37 mN E.call E.dcall E.lp a0 A).1) fun _ _ _=>(n37 ..).2) (.node 35 (e1 35 (fun E a0 A=>(n35 mN E.call E.dcall E.lp a0 A).1) fun _ _ _=>(n35 ..).2) (.node 34 (e1 34 (fun E a0 A=>(n34 mN E.call E.dcall E.lp a0 A).1) fun _ _ _=>(n34 ..).2) (.node 28 (e2 28 (fun E a0 a1 A=>(n28 mN E.call E.dcall E.lp a0 a1 A).1) fun _ _ _ _=>(n28 ..).2) (.leaf) (.leaf)) (.leaf)) (.node 36 (e3 36 (fun E a0 a1 a2 A=>(n36 mN E.call E.dcall E.lp a0 a1 a2 A).1) fun _ _ _ _ _=>(n36 ..).2) (.leaf) (.leaf))) (.node 44 (e1 44 (fun E a0 A=>(n44 mN E.call E.dcall E.lp a0 A).1) fun _ _ _=>(n44 ..).2) (.node 43 (e1 43 (fun E a0 A=>(n43 mN E.call E.dcall E.lp a0 A).1) fun _ _ _=>(n43 ..).2) (.leaf) (.leaf)) (.node 45 (e1 45 (fun E a0 A=>(n45 mN E.call E.dcall E.lp a0 A).1) fun _ _ _=>(n45 ..).2) (.leaf) (.leaf))))) (.node 67 (e1 67 (fun E a0 A=>(n67 mN E.call E.dcall E.lp a0 A).1) fun _ _ _=>(n67 ..).2) (.node 63 (e1 63 (fun E a0 A=>(n63 mN E.call E.dcall E.lp a0 A).1) fun _ _ _=>(n63 ..).2) (.node 61 (e1 61 (fun E a0 A=>(n61 mN E.call E.dcall E.lp a0 A).1) fun _ _ _=>(n61 ..).2) (.node 60 (e2 60 (fun E a0 a1 A=>(n60 mN E.call E.dcall E.lp a0 a1 A).1) fun _ _ _ _=>(n60 ..).2) (.node 59 (e4 59 (fun E a0 a1 a2 a3 A=>(n59 mN E.call E.dcall E.lp a0 a1 a2 a3 A).1) fun _ _ _ _ _ _=>(n59 ..).2) (.leaf) (.leaf)) (.leaf)) (.node 62 (e2 62 (fun E a0 a1 A=>(n62 mN E.call E.dcall E.lp a0 a1 A).1) fun _ _ _ _=>(n62 ..).2) (.leaf) (.leaf))) (.node 65 (e1 65 (fun E a0 A=>(n65 mN E.call E.dcall E.lp a0 A).1) fun _ _ _=>(n65 ..).2) (.node 64 (e1 64 (fun E a0 A=>(n64 mN E.call E.dcall E.lp a0 A).1) fun _ _ _=>(n64 ..).2) (.leaf) (.leaf)) (.node 66 (e2 66 (fun E a0 a1 A=>(n66 mN E.call E.dcall E.lp a0 a1 A).1) fun _ _ _ _=>(n66 ..).2) (.leaf) (.leaf)))) (.node 79 (e1 79 (fun E a0 A=>(n79 mN E.call E.dcall E.lp a0 A).1) fun _ _ _=>(n79 ..).2) (.node 77 (e1 77 (fun E a0 A=>(n77 mN E.call E.dcall E.lp a0 A).1) fun _ _ _=>(n77 ..).2) (.node 68 (e2 68 (fun E a0 a1 A=>(n68 mN E.call E.dcall E.lp a0 a1 A).1) fun _ _ _ _=>(n68 ..).2) (.leaf) (.leaf)) (.node 78 (e1 78 (fun E a0 A=>(n78 mN E.call E.dcall E.lp a0 A).1) fun _ _ _=>(n78 ..).2) (.leaf) (.leaf))) (.node 81 (e2 81 (fun E a0 a1 A=>(n81 mN E.call E.dcall E.lp a0 a1 A).1) fun _ _ _ _=>(n81 ..).2) (.node 80 (e1 80 (fun E a0 A=>(n80 mN E.call E.dcall E.lp a0 A).1) fun _ _ _=>(n80 ..).2) (.leaf) (.leaf)) (.node 82 (e3 82 (fun E a0 a1 a2 A=>(n82 mN E.call E.dcall E.lp a0 a1 a2 A).1) fun _ _ _ _ _=>(n82 ..).2) (.leaf) (.leaf)))))) (.node 137 (e2 137 (fun E a0 a1 A=>(n137 mN E.call E.dcall E.lp a0 a1 A).1) fun _ _ _ _=>(n137 ..).2) (.node 114 (e2 114 (fun E a0 a1 A=>(n114 mN E.call E.dcall E.lp a0 a1 A).1) fun _ _ _ _=>(n114 ..).2) (.node 108 (e1 108 (fun E a0 A=>(n108 mN E.call E.dcall E.lp a0 A).1) fun _ _ _=>(n108 ..).2) (.node 106 (e3 106 (fun E a0 a1 a2 A=>(n106 mN E.call E.dcall E.lp a0 a1 a2 A).1) fun _ _ _ _ _=>(n106 ..).2) (.node 87 (e2 87 (fun E a0 a1 A=>(n87 mN E.call E.dcall E.lp a0 a1 A).1) fun _ _ _ _=>(n87 ..).2) (.node 86 (e2 86 (fun E a0 a1 A=>(n86 mN E.call E.dcall E.lp a0 a1 A).1) fun _ _ _ _=>(n86 ..).2) (.leaf) (.leaf)) (.leaf)) (.node 107 (e2 107 (fun E a0 a1 A=>(n107 mN E.call E.dcall E.lp a0 a1 A).1) fun _ _ _ _=>(n107 ..).2) (.leaf) (.leaf))) (.node 112 (e3 112 (fun E a0 a1 a2 A=>(n112 mN E.call E.dcall E.lp a0 a1 a2 A).1) fun _ _ _ _ _=>(n112 ..).2) (.node 111 (e1 111 (fun E a0 A=>(n111 mN E.call E.dcall E.lp a0 A).1) fun _ _ _=>(n111 ..).2) (.leaf) (.leaf)) (.node 113 (e1 113 (fun E a0 A=>(n113 mN E.call E.dcall E.lp a0 A).1) fun _ _ _=>(n113 ..).2) (.leaf) (.leaf)))) (.node 123 (e1 123 (fun E a0 A=>(n123 mN E.call E.dcall E.lp a0 A).1) fun _ _ _=>(n123 ..).2) (.node 120 (e2 120 (fun E a0 a1 A=>(n120 mN E.call E.dcall E.lp a0 a1 A).1) fun _ _ _ _=>(n120 ..).2) (.node 119 (e2 119 (fun E a0 a1 A=>(n119 mN E.call E.dcall E.lp a0 a1 A).1) fun _ _ _ _=>(n119 ..).2) (.leaf) (.leaf)) (.node 121 (e2 121 (fun E a0 a1 A=>(n121 mN E.call E.dcall E.lp a0 a1 A).1) fun _ _ _ _=>(n121 ..).2) (.leaf) (.leaf))) (.node 135 (e4 135 (fun E a0 a1 a2 a3 A=>(n135 mN E.call E.dcall E.lp a0 a1 a2 a3 A).1) fun _ _ _ _ _ _=>(n135 ..).2) (.node 128 (e2 128 (fun E a0 a1 A=>(n128 mN E.call E.dcall E.lp a0 a1 A).1) fun _ _ _ _=>(n128 ..).2) (.leaf) (.leaf)) (.node 136 (e1 136 (fun E a0 A=>(n136 mN E.call E.dcall E.lp a0 A).1) fun _ _ _=>(n136 ..).2) (.leaf) (.leaf))))) (.node 166 (e2 166 (fun E a0 a1 A=>(n166 mN E.call E.dcall E.lp a0 a1 A).1) fun _ _ _ _=>(n166 ..).2) (.node 146 (e2 146 (fun E a0 a1 A=>(n146 mN E.call E.dcall E.lp a0 a1 A).1) fun _ _ _ _=>(n146 ..).2) (.node 140 (e2 140 (fun E a0 a1 A=>(n140 mN E.call E.dcall E.lp a0 a1 A).1) fun _ _ _ _=>(n140 ..).2) (.node 139 (e2 139 (fun E a0 a1 A=>(n139 mN E.call E.dcall E.lp a0 a1 A).1) fun _ _ _ _=>(n139 ..).2) (.node 138 (e1 138 (fun E a0 A=>(n138 mN E.call E.dcall E.lp a0 A).1) fun _ _ _=>(n138 ..).2) (.leaf) (.leaf)) (.leaf)) (.node 145 (e1 145 (fun E a0 A=>(n145 mN E.call E.dcall E.lp a0 A).1) fun _ _ _=>(n145 ..).2) (.leaf) (.leaf))) (.node 153 (e2 153 (fun E a0 a1 A=>(n153 mN E.call E.dcall E.lp a0 a1 A).1) fun _ _ _ _=>(n153 ..).2) (.node 147 (e2 147 (fun E a0 a1 A=>(n147 mN E.call E.dcall E.lp a0 a1 A).1) fun _ _ _ _=>(n147 ..).2) (.leaf) (.leaf)) (.node 162 (e2 162 (fun E a0 a1 A=>(n162 mN E.call E.dcall E.lp a0 a1 A).1) fun _ _ _ _=>(n162 ..).2) (.leaf) (.leaf)))) (.node 172 (e1 172 (fun E a0 A=>(n172 mN E.call E.dcall E.lp a0 A).1) fun _ _ _=>(n172 ..).2) (.node 168 (e2 168 (fun E a0 a1 A=>(n168 mN E.call E.dcall E.lp a0 a1 A).1) fun _ _ _ _=>(n168 ..).2) (.node 167 (e2 167 (fun E a0 a1 A=>(n167 mN E.call E.dcall E.lp a0 a1 A).1) fun _ _ _ _=>(n167 ..).2) (.leaf) (.leaf)) (.node 171 (e1 171 (fun E a0 A=>(n171 mN E.call E.dcall E.lp a0 A).1) fun _ _ _=>(n171 ..).2) (.leaf) (.leaf))) (.node 195 (e1 195 (fun E a0 A=>(n195 mN E.call E.dcall E.lp a0 A).1) fun _ _ _=>(n195 ..).2) (.node 191 (e1 191 (fun E a0 A=>(n191 mN E.call E.dcall E.lp a0 A).1) fun _ _ _=>(n191 ..).2) (.leaf) (.leaf)) (.node 205 (e1 205 (fun E a0 A=>(n205 mN E.call E.dcall E.lp a0 A).1) fun _ _ _=>(n205 ..).2) (.leaf) (.leaf))))))
noncomputable def tL:Tree (List (LEnt Tryz.prog rxH.hint kk)) :=
 .node 86 ([l1 86 [0,1,0,0,1,1,1,1,1,1,1,0,1,0,1,1,1] (fun E A0 e A=>(n86_0 mN E.call E.dcall E.lp A A0 e).1) rfl fun _ _ _ _=>(n86_0 ..).2,l1 86 [0,1,0,1,0,1,1,1,1,1,1,1,1,1,0,1,0,1,1,1] (fun E A0 e A=>(n86_1 mN E.call E.dcall E.lp A A0 e).1) rfl fun _ _ _ _=>(n86_1 ..).2]) (.node 54 ([l1 54 [0,1,0,1,1] (fun E A0 e A=>(n54_0 mN E.call E.dcall E.lp A A0 e).1) rfl fun _ _ _ _=>(n54_0 ..).2,l1 54 [0,1,0,1,1,1,1] (fun E A0 e A=>(n54_1 mN E.call E.dcall E.lp A A0 e).1) rfl fun _ _ _ _=>(n54_1 ..).2]) (.node 25 ([l1 25 [0,1,0,1,1,1,1,1,1,1,1,1,1,1,1] (fun E A0 e A=>(n25_0 mN E.call E.dcall E.lp A A0 e).1) rfl fun _ _ _ _=>(n25_0 ..).2]) (.node 14 ([l1 14 [0,1,0,1,1] (fun E A0 e A=>(n14_0 mN E.call E.dcall E.lp A A0 e).1) rfl fun _ _ _ _=>(n14_0 ..).2]) (.node 8 ([l1 8 [0,1,0,1,1,1,1] (fun E A0 e A=>(n8_0 mN E.call E.dcall E.lp A A0 e).1) rfl fun _ _ _ _=>(n8_0 ..).2]) (.leaf) (.leaf)) (.node 18 ([l1 18 [0,1,0,1,1,1] (fun E A0 e A=>(n18_0 mN E.call E.dcall E.lp A A0 e).1) rfl fun _ _ _ _=>(n18_0 ..).2,l1 18 [0,1,0,1,1,1,1,1,1,1] (fun E A0 e A=>(n18_1 mN E.call E.dcall E.lp A A0 e).1) rfl fun _ _ _ _=>(n18_1 ..).2,l2 18 [0,1,1,0,0,1,1,0,0,1,0,1,1,1,1,1,1,1] (fun E A0 A1 e A=>(n18_2 mN E.call E.dcall E.lp A A0 A1 e).1) rfl fun _ _ _ _ _=>(n18_2 ..).2]) (.leaf) (.leaf))) (.node 45 ([l1 45 [0,1,0,1,1] (fun E A0 e A=>(n45_0 mN E.call E.dcall E.lp A A0 e).1) rfl fun _ _ _ _=>(n45_0 ..).2]) (.node 34 ([l1 34 [0,1,0,1,1] (fun E A0 e A=>(n34_0 mN E.call E.dcall E.lp A A0 e).1) rfl fun _ _ _ _=>(n34_0 ..).2]) (.leaf) (.leaf)) (.leaf))) (.node 80 ([l1 80 [0,1,0] (fun E A0 e A=>(n80_0 mN E.call E.dcall E.lp A A0 e).1) rfl fun _ _ _ _=>(n80_0 ..).2,l1 80 [0,1,1] (fun E A0 e A=>(n80_1 mN E.call E.dcall E.lp A A0 e).1) rfl fun _ _ _ _=>(n80_1 ..).2]) (.node 65 ([l1 65 [0,1,1] (fun E A0 e A=>(n65_0 mN E.call E.dcall E.lp A A0 e).1) rfl fun _ _ _ _=>(n65_0 ..).2]) (.node 61 ([l1 61 [0] (fun E A0 e A=>(n61_0 mN E.call E.dcall E.lp A A0 e).1) rfl fun _ _ _ _=>(n61_0 ..).2]) (.leaf) (.leaf)) (.node 68 ([l1 68 [0,1,0,1] (fun E A0 e A=>(n68_0 mN E.call E.dcall E.lp A A0 e).1) rfl fun _ _ _ _=>(n68_0 ..).2]) (.leaf) (.leaf))) (.node 82 ([l1 82 [0,1,0,1,1,1] (fun E A0 e A=>(n82_0 mN E.call E.dcall E.lp A A0 e).1) rfl fun _ _ _ _=>(n82_0 ..).2]) (.node 81 ([l1 81 [0,1,0,1,1] (fun E A0 e A=>(n81_0 mN E.call E.dcall E.lp A A0 e).1) rfl fun _ _ _ _=>(n81_0 ..).2]) (.leaf) (.leaf)) (.leaf)))) (.node 145 ([l1 145 [0,1,0,1,1] (fun E A0 e A=>(n145_0 mN E.call E.dcall E.lp A A0 e).1) rfl fun _ _ _ _=>(n145_0 ..).2]) (.node 113 ([l1 113 [0,0,1,1] (fun E A0 e A=>(n113_0 mN E.call E.dcall E.lp A A0 e).1) rfl fun _ _ _ _=>(n113_0 ..).2]) (.node 108 ([l1 108 [0,0,1,1,1,1,1] (fun E A0 e A=>(n108_0 mN E.call E.dcall E.lp A A0 e).1) rfl fun _ _ _ _=>(n108_0 ..).2]) (.node 87 ([l1 87 [0,1,0,1,1,1] (fun E A0 e A=>(n87_0 mN E.call E.dcall E.lp A A0 e).1) rfl fun _ _ _ _=>(n87_0 ..).2]) (.leaf) (.leaf)) (.node 111 ([l1 111 [0,1,0,1,1,1] (fun E A0 e A=>(n111_0 mN E.call E.dcall E.lp A A0 e).1) rfl fun _ _ _ _=>(n111_0 ..).2]) (.leaf) (.leaf))) (.node 135 ([l1 135 [0,0,0,1,0] (fun E A0 e A=>(n135_0 mN E.call E.dcall E.lp A A0 e).1) rfl fun _ _ _ _=>(n135_0 ..).2,l1 135 [0,0,1] (fun E A0 e A=>(n135_1 mN E.call E.dcall E.lp A A0 e).1) rfl fun _ _ _ _=>(n135_1 ..).2]) (.node 119 ([l1 119 [0,1,0,1,1] (fun E A0 e A=>(n119_0 mN E.call E.dcall E.lp A A0 e).1) rfl fun _ _ _ _=>(n119_0 ..).2]) (.leaf) (.leaf)) (.leaf))) (.node 162 ([l1 162 [0,1,0,1] (fun E A0 e A=>(n162_0 mN E.call E.dcall E.lp A A0 e).1) rfl fun _ _ _ _=>(n162_0 ..).2]) (.node 153 ([l1 153 [0,1,0,1] (fun E A0 e A=>(n153_0 mN E.call E.dcall E.lp A A0 e).1) rfl fun _ _ _ _=>(n153_0 ..).2]) (.node 147 ([l1 147 [0,1,0,1,1] (fun E A0 e A=>(n147_0 mN E.call E.dcall E.lp A A0 e).1) rfl fun _ _ _ _=>(n147_0 ..).2]) (.leaf) (.leaf)) (.leaf)) (.node 171 ([l1 171 [0,1,1] (fun E A0 e A=>(n171_0 mN E.call E.dcall E.lp A A0 e).1) rfl fun _ _ _ _=>(n171_0 ..).2]) (.node 166 ([l1 166 [0,0,1,1,1,1,1,1,1,1] (fun E A0 e A=>(n166_0 mN E.call E.dcall E.lp A A0 e).1) rfl fun _ _ _ _=>(n166_0 ..).2]) (.leaf) (.leaf)) (.leaf))))
noncomputable def ev (n:Nat):Ev:=evT Tryz.prog rxH kk 207 tF tL n
theorem ev_ok (n:Nat):EvOk Tryz.prog rxH (ev n):=evT_ok tF tL (fun _ h=>okf h) n
end Go.Vm.Rx

/- awake answers true: reckoned. -/
namespace Go.Vm.Rx
open Go.Proofs
set_option maxRecDepth 100000
def isTrue:ORes→Bool
 | some (.ret (.bool true),_)=>true
 | _=>false
theorem alive_ev:isTrue ((ev 100000).call 11 [] [])=true:=by kernel_rfl
theorem alive_run:∃ A',Run Tryz.prog rxH 11 [] []=some (.ret (.bool true),A'):=by
 have h:=alive_ev
 revert h
 cases hr:(ev 100000).call 11 [] [] with
 | none=>intro h;cases h
 | some r =>
  intro h
  obtain ⟨d,A'⟩:=r
  unfold isTrue at h
  split at h
  ·rename_i A'' e
   cases e
   exact ⟨_,(ev_ok 100000).call _ _ _ _ hr⟩
  ·cases h
end Go.Vm.Rx

/- What is laid beside the run is right: a byte's place in a text;slices.Grow of the slice that is none;alive. -/
namespace Go.Vm.Rx
open Go Go.Proofs Go.Shelf Go.RowKit
set_option maxRecDepth 100000

theorem indexByte_sound:∀ args A r,indexByteX args A=some r→Sound Tryz.prog 193 args A r:=by
 intro args A r h
 unfold indexByteX at h
 split at h
 ·rename_i s c
  cases h
  intro g w vs I hr
  right
  simp only [RepL,Rep] at hr
  obtain ⟨v,_,rfl,⟨x,rfl,hs⟩,v2,_,rfl,rfl,rfl⟩:=hr
  have hrun:=run_callFunc_extern (P:=Tryz.prog) (f:=193) (e:=Extern.BytealgIndexByte.indexByte) Tryz.func193 (by decide) (by kernel_rfl) (by kernel_rfl) (by kernel_rfl) #[.string x,.int .u8 c] w
  rw [Lib.run_indexByteString] at hrun
  refine ⟨.int .i64 (Lib.indexByte x.data.toList c.toNat.toUInt8),w,g,_, ?_,Ext.refl _ _,I,rfl, ?_⟩
  ·simpa using hrun
  ·simp [Rep,hs]
 ·cases h

theorem grow_sound {f:FuncId} {fn:Func} (hf:Tryz.prog.funcs[f]?=some fn) (hok:fnOk fn=true) (es b:Nat) {ρ:Ren} (L:Lays8.n4 Tryz.prog ρ) (hρ:ρ.f 4=f)
  (hinfo:(Tryz.prog.info? (ρ.t 25)).map (fun i=>(i.size,i.bytes,i.zero.map (·.cells.size)))=some (es,b,some es)) (h0:0<es) (hb0:0<b) :
  ∀ args A r,growX es b args A=some r→Sound Tryz.prog f args A r:=by
 intro args A r h
 simp only [Option.map_eq_some_iff,Prod.mk.injEq] at hinfo
 obtain ⟨i0,hi0,hes,hb,z,hz0,hzs⟩:=hinfo
 unfold growX at h
 split at h
 ·rename_i n
  split at h
  ·cases h
  ·rename_i hn
   intro g w vs I hr
   left
   refine ⟨fnOk_run hf hok _ _, ?_⟩
   simp only [RepL] at hr
   obtain ⟨v,_,rfl,hv,v2,_,rfl,hv2,rfl⟩:=hr
   simp only [Rep] at hv hv2
   obtain ⟨a,cap,rfl,_,hcap,_⟩:=hv
   have hcap:cap=0:=hcap
   subst hcap
   subst hv2
   obtain ⟨m,rfl⟩:∃ m:Nat,n=m:=⟨n.toNat,by omega⟩
   split at h
   ·rename_i hm
    cases h
    have hm:m=0:=by omega
    subst hm
    have:=Any8.slices_Grow_room L a 0 0 0 w (Nat.le_refl _) (by omega) (by omega) (by omega)
    rw [hρ] at this
    refine this.mono fun e w' ⟨he,hw⟩=>?_
    subst he hw
    refine ⟨g,Ext.refl _ _,I, ?_⟩
    show Rep _ _ _ _
    simp only [Rep]
    exact ⟨a,0,rfl,Nat.le_refl _,rfl,fun h=>absurd rfl h⟩
   ·rename_i hm
    cases hroom:roomOk (m:Int).toNat b with
    | false=>rw [hroom] at h;simp at h
    | true =>
     rw [hroom] at h
     simp only [cond_true,Option.some.injEq] at h
     subst h
     have hbig:m * b≤140737488355328:=by simpa [roomOk] using hroom
     have hmb:m≤m * b:=Nat.le_mul_of_pos_right _ hb0
     have:=Any8.slices_Grow_grow L i0 z hi0 hz0 (by omega) a 0 0 m [] w (Nat.le_refl _) (by omega) (by rw [hb];simpa using hbig) (by omega) (by simp) (fun _=>rfl) (by simp)
     rw [hρ] at this
     refine this.mono fun e w' ⟨he,hw⟩=>?_
     subst he hw
     obtain ⟨E0,I0⟩:=I.drew
     generalize hC:(([]:List Value).toArray++Builtin.zeroCells z.cells (0+m - 0)++Builtin.zeroCells z.cells (grownCap w (0+m) 0 (ρ.t 25) - (0+m)))=C
     obtain ⟨E1,I1,ha,ho⟩:=I0.alloc C (ρ.t 25) (0,0)
     have hge:0+m≤grownCap w (0+m) 0 (ρ.t 25):=grownCap_ge w _ _ _
     have hsize:C.size=grownCap w (0+m) 0 (ρ.t 25) * es:=by
      rw [← hC]
      simp only [Array.size_append,size_zeroCells,List.size_toArray,List.length_nil]
      rw [hzs,Nat.zero_add,← Nat.add_mul]
      congr 1
      omega
     generalize grownCap w (0+m) 0 (ρ.t 25)=c' at hge hsize ⊢
     have hg:g.len=A.length:=I.len
     have hfz:∀ (W:World) (j:Nat),(W.alloc (.cells C (ρ.t 25))).frozen? ⟨W.heap.size,j,none⟩=false:=fun W j=>by simp
     obtain ⟨E2,I2⟩:=I1.bind_new (.tok (some (w.drew.heap.size,0,c' * es)) 0) (.tok 0) ⟨rfl,fun b e lim hr j h1 h2=>by
      cases hr
      refine ⟨⟨C[j], ?_⟩,hfz _ j⟩
      rw [World.cell?_alloc_new,Array.getElem?_eq_getElem (by omega)]⟩ fun b off hown=>by
      obtain ⟨rfl,_,_⟩:=hown
      exact ⟨ha off,fun k hk=>ho k off hk⟩
     refine ⟨_,(E0.trans E1).trans E2,I2, ?_⟩
     show Rep _ _ _ _
     simp only [Rep,List.length_nil]
     refine ⟨_,c',rfl,Nat.zero_le _, ?_,fun hne=>absurd rfl hne⟩
     simp only [OwnOk]
     refine ⟨by simp [hg],fun r q hm=>?_⟩
     rw [← hg] at hm
     simp only [upd_same,Bind.tok.injEq] at hm
     obtain ⟨rfl,rfl⟩:=hm
     exact ⟨by simp,fun _=>.inr ⟨_,_,_,0,rfl,rfl,by simp,by simp⟩⟩
 ·cases h
def laysIR:Ren:=⟨fun x=>if x=22 then 110 else if x=29 then 143 else if x=30 then 144 else if x=36 then 170 else if x=17 then 194 else x,fun x=>if x=24 then 34 else x,fun x=>x⟩
theorem laysI:Lays2.n22 Tryz.prog laysIR where
 mixed:=by kernel_rfl
 f17:=Tryz.func194.trans (congrArg some (by kernel_rfl))
 f22:=Tryz.func110.trans (congrArg some (by kernel_rfl))
 f29:=Tryz.func143.trans (congrArg some (by kernel_rfl))
 f30:=Tryz.func144.trans (congrArg some (by kernel_rfl))
 f36:=Tryz.func170.trans (congrArg some (by kernel_rfl))
 t0:=Tryz.underlying0
 a0:=Tryz.isAgg0
 z0:=Tryz.sizeOf0
 v0:=Tryz.zeroValue0
 t3:=Tryz.underlying3
 a3:=Tryz.isAgg3
 z3:=Tryz.sizeOf3
 v3:=Tryz.zeroValue3
 t4:=Tryz.underlying4
 a4:=Tryz.isAgg4
 z4:=Tryz.sizeOf4
 v4:=Tryz.zeroValue4
 t9:=Tryz.underlying9
 a9:=Tryz.isAgg9
 z9:=Tryz.sizeOf9
 v9:=Tryz.zeroValue9
 t24:=Tryz.underlying34
 a24:=Tryz.isAgg34
 z24:=Tryz.sizeOf34
 v24:=Tryz.zeroValue34
 i9:=by kernel_rfl
def laysBR:Ren:=⟨fun x=>if x=26 then 109 else if x=33 then 141 else if x=34 then 142 else if x=38 then 169 else x,fun x=>if x=24 then 34 else if x=40 then 202 else x,fun x=>x⟩
theorem laysB:Lays2.n26 Tryz.prog laysBR where
 mixed:=by kernel_rfl
 f26:=Tryz.func109.trans (congrArg some (by kernel_rfl))
 f33:=Tryz.func141.trans (congrArg some (by kernel_rfl))
 f34:=Tryz.func142.trans (congrArg some (by kernel_rfl))
 f38:=Tryz.func169.trans (congrArg some (by kernel_rfl))
 t0:=Tryz.underlying0
 a0:=Tryz.isAgg0
 z0:=Tryz.sizeOf0
 v0:=Tryz.zeroValue0
 t3:=Tryz.underlying3
 a3:=Tryz.isAgg3
 z3:=Tryz.sizeOf3
 v3:=Tryz.zeroValue3
 t4:=Tryz.underlying4
 a4:=Tryz.isAgg4
 z4:=Tryz.sizeOf4
 v4:=Tryz.zeroValue4
 t9:=Tryz.underlying9
 a9:=Tryz.isAgg9
 z9:=Tryz.sizeOf9
 v9:=Tryz.zeroValue9
 t24:=Tryz.underlying34
 a24:=Tryz.isAgg34
 z24:=Tryz.sizeOf34
 v24:=Tryz.zeroValue34
 t40:=Tryz.underlying202
 a40:=Tryz.isAgg202
 z40:=Tryz.sizeOf202
 v40:=Tryz.zeroValue202
def laysOR:Ren:=⟨fun x=>if x=190 then 129 else if x=125 then 164 else if x=258 then 163 else if x=128 then 189 else if x=129 then 176 else if x=302 then 181 else if x=303 then 182 else if x=304 then 183 else if x=305 then 184 else if x=306 then 185 else if x=307 then 186 else if x=308 then 141 else if x=309 then 187 else if x=310 then 188 else if x=333 then 199 else if x=329 then 200 else if x=330 then 201 else if x=334 then 202 else if x=335 then 203 else if x=336 then 169 else if x=344 then 206 else x,fun x=>if x=31 then 34 else if x=46 then 202 else if x=51 then 222 else if x=53 then 210 else if x=183 then 228 else if x=182 then 227 else if x=131 then 95 else if x=218 then 238 else if x=222 then 242 else if x=228 then 248 else if x=229 then 143 else x,fun x=>x⟩
theorem laysO:Lays.n190 Tryz.prog laysOR where
 mixed:=by kernel_rfl
 f125:=Tryz.func164.trans (congrArg some (by kernel_rfl))
 f128:=Tryz.func189.trans (congrArg some (by kernel_rfl))
 f129:=Tryz.func176.trans (congrArg some (by kernel_rfl))
 f190:=Tryz.func129.trans (congrArg some (by kernel_rfl))
 f258:=Tryz.func163.trans (congrArg some (by kernel_rfl))
 f302:=Tryz.func181.trans (congrArg some (by kernel_rfl))
 f303:=Tryz.func182.trans (congrArg some (by kernel_rfl))
 f304:=Tryz.func183.trans (congrArg some (by kernel_rfl))
 f305:=Tryz.func184.trans (congrArg some (by kernel_rfl))
 f306:=Tryz.func185.trans (congrArg some (by kernel_rfl))
 f307:=Tryz.func186.trans (congrArg some (by kernel_rfl))
 f308:=Tryz.func141.trans (congrArg some (by kernel_rfl))
 f309:=Tryz.func187.trans (congrArg some (by kernel_rfl))
 f310:=Tryz.func188.trans (congrArg some (by kernel_rfl))
 f329:=Tryz.func200.trans (congrArg some (by kernel_rfl))
 f330:=Tryz.func201.trans (congrArg some (by kernel_rfl))
 f333:=Tryz.func199.trans (congrArg some (by kernel_rfl))
 f334:=Tryz.func202.trans (congrArg some (by kernel_rfl))
 f335:=Tryz.func203.trans (congrArg some (by kernel_rfl))
 f336:=Tryz.func169.trans (congrArg some (by kernel_rfl))
 f344:=Tryz.func206.trans (congrArg some (by kernel_rfl))
 t0:=Tryz.underlying0
 a0:=Tryz.isAgg0
 z0:=Tryz.sizeOf0
 v0:=Tryz.zeroValue0
 t3:=Tryz.underlying3
 a3:=Tryz.isAgg3
 z3:=Tryz.sizeOf3
 v3:=Tryz.zeroValue3
 t4:=Tryz.underlying4
 a4:=Tryz.isAgg4
 z4:=Tryz.sizeOf4
 v4:=Tryz.zeroValue4
 t5:=Tryz.underlying5
 a5:=Tryz.isAgg5
 z5:=Tryz.sizeOf5
 v5:=Tryz.zeroValue5
 t9:=Tryz.underlying9
 a9:=Tryz.isAgg9
 z9:=Tryz.sizeOf9
 v9:=Tryz.zeroValue9
 t31:=Tryz.underlying34
 a31:=Tryz.isAgg34
 z31:=Tryz.sizeOf34
 v31:=Tryz.zeroValue34
 t46:=Tryz.underlying202
 a46:=Tryz.isAgg202
 z46:=Tryz.sizeOf202
 v46:=Tryz.zeroValue202
 t51:=Tryz.underlying222
 a51:=Tryz.isAgg222
 z51:=Tryz.sizeOf222
 v51:=Tryz.zeroValue222
 t53:=Tryz.underlying210
 a53:=Tryz.isAgg210
 z53:=Tryz.sizeOf210
 v53:=Tryz.zeroValue210
 t131:=Tryz.underlying95
 a131:=Tryz.isAgg95
 z131:=Tryz.sizeOf95
 v131:=Tryz.zeroValue95
 t182:=Tryz.underlying227
 a182:=Tryz.isAgg227
 z182:=Tryz.sizeOf227
 v182:=Tryz.zeroValue227
 t183:=Tryz.underlying228
 a183:=Tryz.isAgg228
 z183:=Tryz.sizeOf228
 v183:=Tryz.zeroValue228
 t218:=Tryz.underlying238
 a218:=Tryz.isAgg238
 z218:=Tryz.sizeOf238
 v218:=Tryz.zeroValue238
 t222:=Tryz.underlying242
 a222:=Tryz.isAgg242
 z222:=Tryz.sizeOf242
 v222:=Tryz.zeroValue242
 t228:=Tryz.underlying248
 a228:=Tryz.isAgg248
 z228:=Tryz.sizeOf248
 v228:=Tryz.zeroValue248
 t229:=Tryz.underlying143
 a229:=Tryz.isAgg143
 z229:=Tryz.sizeOf143
 v229:=Tryz.zeroValue143
def laysCR:Ren:=⟨fun x=>if x=194 then 130 else x,fun x=>if x=31 then 34 else x,fun x=>x⟩
theorem laysC:Lays.n194 Tryz.prog laysCR where
 mixed:=by kernel_rfl
 f194:=Tryz.func130.trans (congrArg some (by kernel_rfl))
 t0:=Tryz.underlying0
 a0:=Tryz.isAgg0
 z0:=Tryz.sizeOf0
 v0:=Tryz.zeroValue0
 t3:=Tryz.underlying3
 a3:=Tryz.isAgg3
 z3:=Tryz.sizeOf3
 v3:=Tryz.zeroValue3
 t4:=Tryz.underlying4
 a4:=Tryz.isAgg4
 z4:=Tryz.sizeOf4
 v4:=Tryz.zeroValue4
 t9:=Tryz.underlying9
 a9:=Tryz.isAgg9
 z9:=Tryz.sizeOf9
 v9:=Tryz.zeroValue9
 t31:=Tryz.underlying34
 a31:=Tryz.isAgg34
 z31:=Tryz.sizeOf34
 v31:=Tryz.zeroValue34
def laysTR:Ren:=⟨fun x=>if x=171 then 42 else if x=243 then 85 else if x=246 then 122 else if x=283 then 154 else if x=284 then 155 else if x=285 then 156 else if x=286 then 157 else if x=129 then 176 else if x=317 then 175 else if x=318 then 177 else if x=319 then 178 else if x=320 then 179 else if x=337 then 197 else if x=338 then 198 else x,fun x=>if x=171 then 209 else if x=53 then 210 else if x=37 then 75 else if x=173 then 213 else if x=212 then 221 else if x=51 then 222 else if x=213 then 223 else if x=46 then 202 else if x=232 then 246 else if x=233 then 247 else x,fun x=>if x=17 then 0 else if x=18 then 4 else if x=19 then 5 else x⟩
theorem laysT:Lays.n171 Tryz.prog laysTR where
 mixed:=by kernel_rfl
 f129:=Tryz.func176.trans (congrArg some (by kernel_rfl))
 f171:=Tryz.func42.trans (congrArg some (by kernel_rfl))
 f243:=Tryz.func85.trans (congrArg some (by kernel_rfl))
 f246:=Tryz.func122.trans (congrArg some (by kernel_rfl))
 f283:=Tryz.func154.trans (congrArg some (by kernel_rfl))
 f284:=Tryz.func155.trans (congrArg some (by kernel_rfl))
 f285:=Tryz.func156.trans (congrArg some (by kernel_rfl))
 f286:=Tryz.func157.trans (congrArg some (by kernel_rfl))
 f317:=Tryz.func175.trans (congrArg some (by kernel_rfl))
 f318:=Tryz.func177.trans (congrArg some (by kernel_rfl))
 f319:=Tryz.func178.trans (congrArg some (by kernel_rfl))
 f320:=Tryz.func179.trans (congrArg some (by kernel_rfl))
 f337:=Tryz.func197.trans (congrArg some (by kernel_rfl))
 f338:=Tryz.func198.trans (congrArg some (by kernel_rfl))
 t0:=Tryz.underlying0
 a0:=Tryz.isAgg0
 z0:=Tryz.sizeOf0
 v0:=Tryz.zeroValue0
 t2:=Tryz.underlying2
 a2:=Tryz.isAgg2
 z2:=Tryz.sizeOf2
 v2:=Tryz.zeroValue2
 t3:=Tryz.underlying3
 a3:=Tryz.isAgg3
 z3:=Tryz.sizeOf3
 v3:=Tryz.zeroValue3
 t4:=Tryz.underlying4
 a4:=Tryz.isAgg4
 z4:=Tryz.sizeOf4
 v4:=Tryz.zeroValue4
 t5:=Tryz.underlying5
 a5:=Tryz.isAgg5
 z5:=Tryz.sizeOf5
 v5:=Tryz.zeroValue5
 t9:=Tryz.underlying9
 a9:=Tryz.isAgg9
 z9:=Tryz.sizeOf9
 v9:=Tryz.zeroValue9
 t20:=Tryz.underlying20
 a20:=Tryz.isAgg20
 z20:=Tryz.sizeOf20
 v20:=Tryz.zeroValue20
 t37:=Tryz.underlying75
 a37:=Tryz.isAgg75
 z37:=Tryz.sizeOf75
 v37:=Tryz.zeroValue75
 t46:=Tryz.underlying202
 a46:=Tryz.isAgg202
 z46:=Tryz.sizeOf202
 v46:=Tryz.zeroValue202
 t51:=Tryz.underlying222
 a51:=Tryz.isAgg222
 z51:=Tryz.sizeOf222
 v51:=Tryz.zeroValue222
 t53:=Tryz.underlying210
 a53:=Tryz.isAgg210
 z53:=Tryz.sizeOf210
 v53:=Tryz.zeroValue210
 t171:=Tryz.underlying209
 a171:=Tryz.isAgg209
 z171:=Tryz.sizeOf209
 v171:=Tryz.zeroValue209
 t173:=Tryz.underlying213
 a173:=Tryz.isAgg213
 z173:=Tryz.sizeOf213
 v173:=Tryz.zeroValue213
 t212:=Tryz.underlying221
 a212:=Tryz.isAgg221
 z212:=Tryz.sizeOf221
 v212:=Tryz.zeroValue221
 t213:=Tryz.underlying223
 a213:=Tryz.isAgg223
 z213:=Tryz.sizeOf223
 t232:=Tryz.underlying246
 a232:=Tryz.isAgg246
 z232:=Tryz.sizeOf246
 v232:=Tryz.zeroValue246
 t233:=Tryz.underlying247
 a233:=Tryz.isAgg247
 z233:=Tryz.sizeOf247
 v233:=Tryz.zeroValue247
 g17:=by kernel_rfl
 g18:=by kernel_rfl
 g19:=by kernel_rfl
def laysSR:Ren:=⟨fun x=>if x=4 then 100 else x,fun x=>if x=22 then 34 else if x=25 then 9 else x,fun x=>x⟩
theorem laysS:Lays8.n4 Tryz.prog laysSR where
 mixed:=by kernel_rfl
 f4 := ⟨ "slices.Grow[[]string,string]", by decide, by kernel_rfl⟩
 t0:=Tryz.underlying0
 a0:=Tryz.isAgg0
 z0:=Tryz.sizeOf0
 v0:=Tryz.zeroValue0
 t3:=Tryz.underlying3
 a3:=Tryz.isAgg3
 z3:=Tryz.sizeOf3
 v3:=Tryz.zeroValue3
 t4:=Tryz.underlying4
 a4:=Tryz.isAgg4
 z4:=Tryz.sizeOf4
 v4:=Tryz.zeroValue4
 t9:=Tryz.underlying9
 a9:=Tryz.isAgg9
 z9:=Tryz.sizeOf9
 v9:=Tryz.zeroValue9
 t20:=Tryz.underlying20
 a20:=Tryz.isAgg20
 z20:=Tryz.sizeOf20
 v20:=Tryz.zeroValue20
 t22:=Tryz.underlying34
 a22:=Tryz.isAgg34
 z22:=Tryz.sizeOf34
 v22:=Tryz.zeroValue34
theorem lib_ok:ExtOk Tryz.prog rxH:=by
 intro f x h
 have h':rxExt f=some x:=h
 unfold rxExt at h'
 split at h'
 ·cases h';exact indexByte_sound
 ·cases h'
  exact grow_sound Tryz.func100 (by kernel_rfl) 1 16 laysS rfl (by kernel_rfl) (by decide) (by decide)
 ·cases h'
  exact sort_sound Tryz.func129 (by kernel_rfl) laysO rfl
 ·cases h'
  exact ins_sound Tryz.func110 (by kernel_rfl) laysI rfl
 ·cases h'
  exact search_sound Tryz.func109 (by kernel_rfl) laysB rfl
 ·cases h'
  exact itoa_sound Tryz.func42 (by kernel_rfl) laysT rfl
 ·cases h'
  exact compact_sound Tryz.func130 (by kernel_rfl) laysC rfl
 ·cases h'
theorem alive_ok:ExtOk Tryz.prog rxA:=by
 intro f x h
 have h':rxExtA f=some x:=h
 unfold rxExtA at h'
 split at h'
 ·cases h'
  intro args A r hr
  unfold aliveX at hr
  split at hr
  ·cases hr
   obtain ⟨A',hA⟩:=alive_run
   exact closed_sound lib_ok hA A
  ·cases hr
 ·exact lib_ok _ x h'
end Go.Vm.Rx

/- Texts among the arguments;the frame of a call. -/
namespace Go.Vm.Rx
open Go Go.Proofs Go.Proofs.YtagmpieoalkneaaGreatDoor P
set_option maxRecDepth 100000
variable {H:Type} {enc:TypeId×Value→H} {w:World} {spare:Nat→Bool} {held:Bool}
theorem bulk_len:∀ (els:List (DataW H)),els.length≤Rows.uptoBulkAll els
 | []=>Nat.zero_le _
 | d::r=>by
  have h1:1≤Rows.uptoBulk d:=by
   cases d with
   | lit l=>cases l<;>unfold Rows.uptoBulk<;>omega
   | _=>unfold Rows.uptoBulk;omega
  have:=bulk_len r
  unfold Rows.uptoBulkAll
  simp only [List.length_cons]
  omega
theorem arg_str {fuel:Nat} {cs:List Value} {x:DataW H×List MemPlace} (h:DataW.trod enc Tryz.prog w 0 spare held fuel 9 cs=some x) :
  ∃ (s:Str) (v:Value),cs=[v]∧VC 1 v∧v.cells.toList=cs∧Rep (g0 w) w (.str s) v∧s.length+1=Rows.uptoBulk x.1:=by
 obtain ⟨s,rfl,hx⟩:=trod_string Tryz.underlying9 h
 refine ⟨s.data.toList,.string s,rfl,⟨rfl,fun z hz=>?_⟩,rfl, ?_, ?_⟩
 ·have:z=.string s:=by simpa [Value.cells] using hz
  subst this;rfl
 ·unfold Rep;exact ⟨s,rfl,rfl⟩
 ·rw [hx];unfold Rows.uptoBulk;rfl
theorem inv0 (w:World):Inv (g0 w) [] w :=
 ⟨rfl,Nat.le_refl _,fun k s h=>by simp at h,fun k k' b off h=>by simp [g0] at h,fun k b off h=>by simp [g0] at h,fun b off h=>h.elim⟩
theorem call_true {f:FuncId} {fn:Func} (hf:Tryz.prog.funcs[f]?=some fn) (hok:fnOk fn=true) {ds:List D} {A':St} (hr:Run Tryz.prog rxA f ds []=some (.ret (.bool true),A')) {w:World} {args:Array Value} (ha:RepL (g0 w) w ds args.toList) :
  Calls Tryz.prog f args w fun e w'=>e=.returned (.bool true)∧Go.RowKit.Below w.heap.size w w':=by
 have hs:=(Run_sound Tryz.prog rxA alive_ok f _ [] _ hr).1 (g0 w) w args.toList (inv0 w) ha
 rcases hs with ⟨_,hc⟩|⟨v,w',g',d,hc,_⟩
 ·refine hc.mono fun e w' ⟨g',E,_,hen⟩=>?_
  cases e with
  | returned v =>
   have hv:Rep g' w' (.bool true) v:=hen
   unfold Rep at hv
   subst hv
   exact ⟨rfl,E.below⟩
  | panicked c=>exact hen.elim
  | outgrown=>exact hen.elim
 ·rw [fnOk_run hf hok] at hc
  cases hc
end Go.Vm.Rx
