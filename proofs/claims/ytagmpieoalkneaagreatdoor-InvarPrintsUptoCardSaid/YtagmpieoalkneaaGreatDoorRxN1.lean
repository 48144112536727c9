/- RxN0, RxN1 in one text. -/
import Derived.Test.YtagmpieoalkneaaGreatDoorRxOk
set_option linter.all false
namespace Go.Vm.Rx
open Go.Proofs
set_option maxRecDepth 100000
set_option maxHeartbeats 0
attribute [local irreducible] bn mp ifb D.bool? D.int? D.str? D.agg? D.cell? D.cellsT ofCells guardB layCells eqOf binO unD convO sliceStrO sliceSlO fieldAddrO fieldO indexAddrO indexStrO assertV extractD nilCheckD lenStrO lenSlO minMaxD loadO storeO boxO sliceParts makeO appendO litO tokO deferO bytesConvO panicD applyD Kept leaveD D.shut D.shutL guardP leavesD shV recBusy recSet closeSt endX seqCall seqI exS leaveM cAt cAtI D.canon D.canonL Res.elim allocO sLen sApp sTake gkM gsM gwM clM jn Env.g yldB
variable (M : Mode) (call : CallT) (dcall : DcallT) (lp : LpT) (a0 a1 a2 a3 a4 : D) (A A0 A1 A2 : St) (e : Env)
noncomputable def n30 : Nf (bodyR M Tryz.prog rxHint kk call dcall lp 30 [a0] A) := ⟨_, by conv => lhs; reduce; simp only [go_sem, Int.reduceOfNat, Int.reduceNegSucc, UInt8.reduceOfNat]⟩
noncomputable def f30 : ORes := (n30 mL (Run Tryz.prog rxA) (Dcall Tryz.prog rxA) (LP Tryz.prog rxA) a0 A).1
noncomputable def n195 : Nf (bodyR M Tryz.prog rxHint kk call dcall lp 195 [a0] A) := ⟨_, by conv => lhs; reduce; simp only [go_sem, Int.reduceOfNat, Int.reduceNegSucc, UInt8.reduceOfNat]⟩
noncomputable def f195 : ORes := (n195 mL (Run Tryz.prog rxA) (Dcall Tryz.prog rxA) (LP Tryz.prog rxA) a0 A).1
noncomputable def n22 : Nf (bodyR M Tryz.prog rxHint kk call dcall lp 22 [a0, a1] A) := ⟨_, by conv => lhs; reduce; simp only [go_sem, Int.reduceOfNat, Int.reduceNegSucc, UInt8.reduceOfNat]⟩
noncomputable def f22 : ORes := (n22 mL (Run Tryz.prog rxA) (Dcall Tryz.prog rxA) (LP Tryz.prog rxA) a0 a1 A).1
noncomputable def n16 : Nf (bodyR M Tryz.prog rxHint kk call dcall lp 16 [a0, a1] A) := ⟨_, by conv => lhs; reduce; simp only [go_sem, Int.reduceOfNat, Int.reduceNegSucc, UInt8.reduceOfNat]⟩
noncomputable def f16 : ORes := (n16 mL (Run Tryz.prog rxA) (Dcall Tryz.prog rxA) (LP Tryz.prog rxA) a0 a1 A).1
theorem r16 : Run Tryz.prog rxA 16 [a0, a1] A = f16 a0.canon a1.canon A := (qbi Tryz.prog rxA kk rfl rfl (okf rfl) _ A).trans (n16 ..).2
noncomputable def n87 : Nf (bodyR M Tryz.prog rxHint kk call dcall lp 87 [a0, a1] A) := ⟨_, by conv => lhs; reduce; simp only [go_sem, Int.reduceOfNat, Int.reduceNegSucc, UInt8.reduceOfNat]⟩
noncomputable def f87 : ORes := (n87 mL (Run Tryz.prog rxA) (Dcall Tryz.prog rxA) (LP Tryz.prog rxA) a0 a1 A).1
theorem r87 : Run Tryz.prog rxA 87 [a0, a1] A = f87 a0.canon a1.canon A := (qbi Tryz.prog rxA kk rfl rfl (okf rfl) _ A).trans (n87 ..).2
noncomputable def n87_0 : Nf (loopB M Tryz.prog rxHint kk call dcall lp 87 [0, 1, 0, 1, 1, 1] [A0] e A) := ⟨_, by conv => lhs; reduce; simp only [go_sem, Int.reduceOfNat, Int.reduceNegSucc, UInt8.reduceOfNat]⟩
theorem q87_0 : LP Tryz.prog rxA 87 [0, 1, 0, 1, 1, 1] [A0] e A = (n87_0 mL (Run Tryz.prog rxA) (Dcall Tryz.prog rxA) (LP Tryz.prog rxA) A A0 e).1 := (LP_eq Tryz.prog rxA kk (okf rfl) rfl e A).trans (n87_0 ..).2
noncomputable def n64 : Nf (bodyR M Tryz.prog rxHint kk call dcall lp 64 [a0] A) := ⟨_, by conv => lhs; reduce; simp only [go_sem, Int.reduceOfNat, Int.reduceNegSucc, UInt8.reduceOfNat]⟩
noncomputable def n23 : Nf (bodyR M Tryz.prog rxHint kk call dcall lp 23 [a0] A) := ⟨_, by conv => lhs; reduce; simp only [go_sem, Int.reduceOfNat, Int.reduceNegSucc, UInt8.reduceOfNat]⟩
noncomputable def f23 : ORes := (n23 mL (Run Tryz.prog rxA) (Dcall Tryz.prog rxA) (LP Tryz.prog rxA) a0 A).1
theorem r23 : Run Tryz.prog rxA 23 [a0] A = f23 a0.canon A := (qbi Tryz.prog rxA kk rfl rfl (okf rfl) _ A).trans (n23 ..).2
noncomputable def n89 : Nf (bodyR M Tryz.prog rxHint kk call dcall lp 89 [a0, a1] A) := ⟨_, by conv => lhs; reduce; simp only [go_sem, Int.reduceOfNat, Int.reduceNegSucc, UInt8.reduceOfNat]⟩
noncomputable def f89 : ORes := (n89 mL (Run Tryz.prog rxA) (Dcall Tryz.prog rxA) (LP Tryz.prog rxA) a0 a1 A).1
theorem r89 : Run Tryz.prog rxA 89 [a0, a1] A = f89 a0.canon a1.canon A := (qbi Tryz.prog rxA kk rfl rfl (okf rfl) _ A).trans (n89 ..).2
noncomputable def n80 : Nf (bodyR M Tryz.prog rxHint kk call dcall lp 80 [a0] A) := ⟨_, by conv => lhs; reduce; simp only [go_sem, Int.reduceOfNat, Int.reduceNegSucc, UInt8.reduceOfNat]⟩
noncomputable def f80 : ORes := (n80 mL (Run Tryz.prog rxA) (Dcall Tryz.prog rxA) (LP Tryz.prog rxA) a0 A).1
theorem r80 : Run Tryz.prog rxA 80 [a0] A = f80 a0.canon A := (qbi Tryz.prog rxA kk rfl rfl (okf rfl) _ A).trans (n80 ..).2
noncomputable def n80_0 : Nf (loopB M Tryz.prog rxHint kk call dcall lp 80 [0, 1, 0] [A0] e A) := ⟨_, by conv => lhs; reduce; simp only [go_sem, Int.reduceOfNat, Int.reduceNegSucc, UInt8.reduceOfNat]⟩
theorem q80_0 : LP Tryz.prog rxA 80 [0, 1, 0] [A0] e A = (n80_0 mL (Run Tryz.prog rxA) (Dcall Tryz.prog rxA) (LP Tryz.prog rxA) A A0 e).1 := (LP_eq Tryz.prog rxA kk (okf rfl) rfl e A).trans (n80_0 ..).2
noncomputable def n80_1 : Nf (loopB M Tryz.prog rxHint kk call dcall lp 80 [0, 1, 1] [A0] e A) := ⟨_, by conv => lhs; reduce; simp only [go_sem, Int.reduceOfNat, Int.reduceNegSucc, UInt8.reduceOfNat]⟩
theorem q80_1 : LP Tryz.prog rxA 80 [0, 1, 1] [A0] e A = (n80_1 mL (Run Tryz.prog rxA) (Dcall Tryz.prog rxA) (LP Tryz.prog rxA) A A0 e).1 := (LP_eq Tryz.prog rxA kk (okf rfl) rfl e A).trans (n80_1 ..).2
noncomputable def n84 : Nf (bodyR M Tryz.prog rxHint kk call dcall lp 84 [a0, a1, a2] A) := ⟨_, by conv => lhs; reduce; simp only [go_sem, Int.reduceOfNat, Int.reduceNegSucc, UInt8.reduceOfNat]⟩
noncomputable def f84 : ORes := (n84 mL (Run Tryz.prog rxA) (Dcall Tryz.prog rxA) (LP Tryz.prog rxA) a0 a1 a2 A).1
theorem r84 : Run Tryz.prog rxA 84 [a0, a1, a2] A = f84 a0.canon a1.canon a2.canon A := (qbi Tryz.prog rxA kk rfl rfl (okf rfl) _ A).trans (n84 ..).2
noncomputable def n84_0 : Nf (loopB M Tryz.prog rxHint kk call dcall lp 84 [0, 1, 0, 1, 1] [A0] e A) := ⟨_, by conv => lhs; reduce; simp only [go_sem, Int.reduceOfNat, Int.reduceNegSucc, UInt8.reduceOfNat]⟩
theorem q84_0 : LP Tryz.prog rxA 84 [0, 1, 0, 1, 1] [A0] e A = (n84_0 mL (Run Tryz.prog rxA) (Dcall Tryz.prog rxA) (LP Tryz.prog rxA) A A0 e).1 := (LP_eq Tryz.prog rxA kk (okf rfl) rfl e A).trans (n84_0 ..).2
noncomputable def n171 : Nf (bodyR M Tryz.prog rxHint kk call dcall lp 171 [a0] A) := ⟨_, by conv => lhs; reduce; simp only [go_sem, Int.reduceOfNat, Int.reduceNegSucc, UInt8.reduceOfNat]⟩
noncomputable def f171 : ORes := (n171 mL (Run Tryz.prog rxA) (Dcall Tryz.prog rxA) (LP Tryz.prog rxA) a0 A).1
noncomputable def n171_0 : Nf (loopB M Tryz.prog rxHint kk call dcall lp 171 [0, 1, 1] [A0] e A) := ⟨_, by conv => lhs; reduce; simp only [go_sem, Int.reduceOfNat, Int.reduceNegSucc, UInt8.reduceOfNat]⟩
noncomputable def n38 : Nf (bodyR M Tryz.prog rxHint kk call dcall lp 38 [a0, a1] A) := ⟨_, by conv => lhs; reduce; simp only [go_sem, Int.reduceOfNat, Int.reduceNegSucc, UInt8.reduceOfNat]⟩
noncomputable def f38 : ORes := (n38 mL (Run Tryz.prog rxA) (Dcall Tryz.prog rxA) (LP Tryz.prog rxA) a0 a1 A).1
theorem r38 : Run Tryz.prog rxA 38 [a0, a1] A = f38 a0.canon a1.canon A := (qbi Tryz.prog rxA kk rfl rfl (okf rfl) _ A).trans (n38 ..).2
noncomputable def n38_0 : Nf (loopB M Tryz.prog rxHint kk call dcall lp 38 [0, 1, 0, 1, 1] [A0] e A) := ⟨_, by conv => lhs; reduce; simp only [go_sem, Int.reduceOfNat, Int.reduceNegSucc, UInt8.reduceOfNat]⟩
theorem q38_0 : LP Tryz.prog rxA 38 [0, 1, 0, 1, 1] [A0] e A = (n38_0 mL (Run Tryz.prog rxA) (Dcall Tryz.prog rxA) (LP Tryz.prog rxA) A A0 e).1 := (LP_eq Tryz.prog rxA kk (okf rfl) rfl e A).trans (n38_0 ..).2
noncomputable def n205 : Nf (bodyR M Tryz.prog rxHint kk call dcall lp 205 [a0] A) := ⟨_, by conv => lhs; reduce; simp only [go_sem, Int.reduceOfNat, Int.reduceNegSucc, UInt8.reduceOfNat]⟩
noncomputable def n121 : Nf (bodyR M Tryz.prog rxHint kk call dcall lp 121 [a0, a1] A) := ⟨_, by conv => lhs; reduce; simp only [go_sem, Int.reduceOfNat, Int.reduceNegSucc, UInt8.reduceOfNat]⟩
noncomputable def f121 : ORes := (n121 mL (Run Tryz.prog rxA) (Dcall Tryz.prog rxA) (LP Tryz.prog rxA) a0 a1 A).1
theorem r121 : Run Tryz.prog rxA 121 [a0, a1] A = f121 a0.canon a1.canon A := (qbi Tryz.prog rxA kk rfl rfl (okf rfl) _ A).trans (n121 ..).2
noncomputable def n59 : Nf (bodyR M Tryz.prog rxHint kk call dcall lp 59 [a0, a1, a2, a3] A) := ⟨_, by conv => lhs; reduce; simp only [go_sem, Int.reduceOfNat, Int.reduceNegSucc, UInt8.reduceOfNat]⟩
noncomputable def n91 : Nf (bodyR M Tryz.prog rxHint kk call dcall lp 91 [a0] A) := ⟨_, by conv => lhs; reduce; simp only [go_sem, Int.reduceOfNat, Int.reduceNegSucc, UInt8.reduceOfNat]⟩
noncomputable def f91 : ORes := (n91 mL (Run Tryz.prog rxA) (Dcall Tryz.prog rxA) (LP Tryz.prog rxA) a0 A).1
theorem r91 : Run Tryz.prog rxA 91 [a0] A = f91 a0.canon A := (qbi Tryz.prog rxA kk rfl rfl (okf rfl) _ A).trans (n91 ..).2
noncomputable def n162 : Nf (bodyR M Tryz.prog rxHint kk call dcall lp 162 [a0, a1] A) := ⟨_, by conv => lhs; reduce; simp only [go_sem, Int.reduceOfNat, Int.reduceNegSucc, UInt8.reduceOfNat]⟩
noncomputable def n162_0 : Nf (loopB M Tryz.prog rxHint kk call dcall lp 162 [0, 1, 0, 1] [A0] e A) := ⟨_, by conv => lhs; reduce; simp only [go_sem, Int.reduceOfNat, Int.reduceNegSucc, UInt8.reduceOfNat]⟩
noncomputable def n149 : Nf (bodyR M Tryz.prog rxHint kk call dcall lp 149 [a0] A) := ⟨_, by conv => lhs; reduce; simp only [go_sem, Int.reduceOfNat, Int.reduceNegSucc, UInt8.reduceOfNat]⟩
noncomputable def f149 : ORes := (n149 mL (Run Tryz.prog rxA) (Dcall Tryz.prog rxA) (LP Tryz.prog rxA) a0 A).1
theorem r149 : Run Tryz.prog rxA 149 [a0] A = f149 a0.canon A := (qbi Tryz.prog rxA kk rfl rfl (okf rfl) _ A).trans (n149 ..).2
noncomputable def n149_0 : Nf (loopB M Tryz.prog rxHint kk call dcall lp 149 [0, 1, 0, 1] [A0] e A) := ⟨_, by conv => lhs; reduce; simp only [go_sem, Int.reduceOfNat, Int.reduceNegSucc, UInt8.reduceOfNat]⟩
theorem q149_0 : LP Tryz.prog rxA 149 [0, 1, 0, 1] [A0] e A = (n149_0 mL (Run Tryz.prog rxA) (Dcall Tryz.prog rxA) (LP Tryz.prog rxA) A A0 e).1 := (LP_eq Tryz.prog rxA kk (okf rfl) rfl e A).trans (n149_0 ..).2
noncomputable def n93 : Nf (bodyR M Tryz.prog rxHint kk call dcall lp 93 [a0] A) := ⟨_, by conv => lhs; reduce; simp only [go_sem, Int.reduceOfNat, Int.reduceNegSucc, UInt8.reduceOfNat]⟩
noncomputable def f93 : ORes := (n93 mL (Run Tryz.prog rxA) (Dcall Tryz.prog rxA) (LP Tryz.prog rxA) a0 A).1
theorem r93 : Run Tryz.prog rxA 93 [a0] A = f93 a0.canon A := (qbi Tryz.prog rxA kk rfl rfl (okf rfl) _ A).trans (n93 ..).2
noncomputable def n106 : Nf (bodyR M Tryz.prog rxHint kk call dcall lp 106 [a0, a1, a2] A) := ⟨_, by conv => lhs; reduce; simp only [go_sem, Int.reduceOfNat, Int.reduceNegSucc, UInt8.reduceOfNat]⟩
noncomputable def f106 : ORes := (n106 mL (Run Tryz.prog rxA) (Dcall Tryz.prog rxA) (LP Tryz.prog rxA) a0 a1 a2 A).1
theorem r106 : Run Tryz.prog rxA 106 [a0, a1, a2] A = f106 a0.canon a1.canon a2.canon A := (qbi Tryz.prog rxA kk rfl rfl (okf rfl) _ A).trans (n106 ..).2
noncomputable def n191 : Nf (bodyR M Tryz.prog rxHint kk call dcall lp 191 [a0] A) := ⟨_, by conv => lhs; reduce; simp only [go_sem, Int.reduceOfNat, Int.reduceNegSucc, UInt8.reduceOfNat]⟩
end Go.Vm.Rx

namespace Go.Vm.Rx
open Go.Proofs
set_option maxRecDepth 100000
set_option maxHeartbeats 0
attribute [local irreducible] bn mp ifb D.bool? D.int? D.str? D.agg? D.cell? D.cellsT ofCells guardB layCells eqOf binO unD convO sliceStrO sliceSlO fieldAddrO fieldO indexAddrO indexStrO assertV extractD nilCheckD lenStrO lenSlO minMaxD loadO storeO boxO sliceParts makeO appendO litO tokO deferO bytesConvO panicD applyD Kept leaveD D.shut D.shutL guardP leavesD shV recBusy recSet closeSt endX seqCall seqI exS leaveM cAt cAtI D.canon D.canonL Res.elim allocO sLen sApp sTake gkM gsM gwM clM jn Env.g yldB
variable (M : Mode) (call : CallT) (dcall : DcallT) (lp : LpT) (a0 a1 a2 a3 a4 : D) (A A0 A1 A2 : St) (e : Env)
noncomputable def n166 : Nf (bodyR M Tryz.prog rxHint kk call dcall lp 166 [a0, a1] A) := ⟨_, by conv => lhs; reduce; simp only [go_sem, Int.reduceOfNat, Int.reduceNegSucc, UInt8.reduceOfNat]⟩
noncomputable def f166 : ORes := (n166 mL (Run Tryz.prog rxA) (Dcall Tryz.prog rxA) (LP Tryz.prog rxA) a0 a1 A).1
theorem r166 : Run Tryz.prog rxA 166 [a0, a1] A = f166 a0.canon a1.canon A := (qbi Tryz.prog rxA kk rfl rfl (okf rfl) _ A).trans (n166 ..).2
noncomputable def n166_0 : Nf (loopB M Tryz.prog rxHint kk call dcall lp 166 [0, 0, 1, 1, 1, 1, 1, 1, 1, 1] [A0] e A) := ⟨_, by conv => lhs; reduce; simp only [go_sem, Int.reduceOfNat, Int.reduceNegSucc, UInt8.reduceOfNat]⟩
noncomputable def n61 : Nf (bodyR M Tryz.prog rxHint kk call dcall lp 61 [a0] A) := ⟨_, by conv => lhs; reduce; simp only [go_sem, Int.reduceOfNat, Int.reduceNegSucc, UInt8.reduceOfNat]⟩
noncomputable def f61 : ORes := (n61 mL (Run Tryz.prog rxA) (Dcall Tryz.prog rxA) (LP Tryz.prog rxA) a0 A).1
theorem r61 : Run Tryz.prog rxA 61 [a0] A = f61 a0.canon A := (qbi Tryz.prog rxA kk rfl rfl (okf rfl) _ A).trans (n61 ..).2
noncomputable def n61_0 : Nf (loopB M Tryz.prog rxHint kk call dcall lp 61 [0] [A0] e A) := ⟨_, by conv => lhs; reduce; simp only [go_sem, Int.reduceOfNat, Int.reduceNegSucc, UInt8.reduceOfNat]⟩
theorem q61_0 : LP Tryz.prog rxA 61 [0] [A0] e A = (n61_0 mL (Run Tryz.prog rxA) (Dcall Tryz.prog rxA) (LP Tryz.prog rxA) A A0 e).1 := (LP_eq Tryz.prog rxA kk (okf rfl) rfl e A).trans (n61_0 ..).2
noncomputable def n83 : Nf (bodyR M Tryz.prog rxHint kk call dcall lp 83 [a0] A) := ⟨_, by conv => lhs; reduce; simp only [go_sem, Int.reduceOfNat, Int.reduceNegSucc, UInt8.reduceOfNat]⟩
noncomputable def f83 : ORes := (n83 mL (Run Tryz.prog rxA) (Dcall Tryz.prog rxA) (LP Tryz.prog rxA) a0 A).1
theorem r83 : Run Tryz.prog rxA 83 [a0] A = f83 a0.canon A := (qbi Tryz.prog rxA kk rfl rfl (okf rfl) _ A).trans (n83 ..).2
noncomputable def n29 : Nf (bodyR M Tryz.prog rxHint kk call dcall lp 29 [a0] A) := ⟨_, by conv => lhs; reduce; simp only [go_sem, Int.reduceOfNat, Int.reduceNegSucc, UInt8.reduceOfNat]⟩
noncomputable def f29 : ORes := (n29 mL (Run Tryz.prog rxA) (Dcall Tryz.prog rxA) (LP Tryz.prog rxA) a0 A).1
theorem r29 : Run Tryz.prog rxA 29 [a0] A = f29 a0.canon A := (qbi Tryz.prog rxA kk rfl rfl (okf rfl) _ A).trans (n29 ..).2
noncomputable def n29_0 : Nf (loopB M Tryz.prog rxHint kk call dcall lp 29 [0, 1, 0, 1, 1, 1, 1] [A0] e A) := ⟨_, by conv => lhs; reduce; simp only [go_sem, Int.reduceOfNat, Int.reduceNegSucc, UInt8.reduceOfNat]⟩
theorem q29_0 : LP Tryz.prog rxA 29 [0, 1, 0, 1, 1, 1, 1] [A0] e A = (n29_0 mL (Run Tryz.prog rxA) (Dcall Tryz.prog rxA) (LP Tryz.prog rxA) A A0 e).1 := (LP_eq Tryz.prog rxA kk (okf rfl) rfl e A).trans (n29_0 ..).2
noncomputable def n17 : Nf (bodyR M Tryz.prog rxHint kk call dcall lp 17 [a0, a1] A) := ⟨_, by conv => lhs; reduce; simp only [go_sem, Int.reduceOfNat, Int.reduceNegSucc, UInt8.reduceOfNat]⟩
noncomputable def f17 : ORes := (n17 mL (Run Tryz.prog rxA) (Dcall Tryz.prog rxA) (LP Tryz.prog rxA) a0 a1 A).1
theorem r17 : Run Tryz.prog rxA 17 [a0, a1] A = f17 a0.canon a1.canon A := (qbi Tryz.prog rxA kk rfl rfl (okf rfl) _ A).trans (n17 ..).2
noncomputable def n15 : Nf (bodyR M Tryz.prog rxHint kk call dcall lp 15 [a0] A) := ⟨_, by conv => lhs; reduce; simp only [go_sem, Int.reduceOfNat, Int.reduceNegSucc, UInt8.reduceOfNat]⟩
noncomputable def f15 : ORes := (n15 mL (Run Tryz.prog rxA) (Dcall Tryz.prog rxA) (LP Tryz.prog rxA) a0 A).1
theorem r15 : Run Tryz.prog rxA 15 [a0] A = f15 a0.canon A := (qbi Tryz.prog rxA kk rfl rfl (okf rfl) _ A).trans (n15 ..).2
noncomputable def n15_0 : Nf (loopB M Tryz.prog rxHint kk call dcall lp 15 [0, 1, 0, 1, 1, 1] [A0] e A) := ⟨_, by conv => lhs; reduce; simp only [go_sem, Int.reduceOfNat, Int.reduceNegSucc, UInt8.reduceOfNat]⟩
theorem q15_0 : LP Tryz.prog rxA 15 [0, 1, 0, 1, 1, 1] [A0] e A = (n15_0 mL (Run Tryz.prog rxA) (Dcall Tryz.prog rxA) (LP Tryz.prog rxA) A A0 e).1 := (LP_eq Tryz.prog rxA kk (okf rfl) rfl e A).trans (n15_0 ..).2
noncomputable def n108 : Nf (bodyR M Tryz.prog rxHint kk call dcall lp 108 [a0] A) := ⟨_, by conv => lhs; reduce; simp only [go_sem, Int.reduceOfNat, Int.reduceNegSucc, UInt8.reduceOfNat]⟩
noncomputable def f108 : ORes := (n108 mL (Run Tryz.prog rxA) (Dcall Tryz.prog rxA) (LP Tryz.prog rxA) a0 A).1
theorem r108 : Run Tryz.prog rxA 108 [a0] A = f108 a0.canon A := (qbi Tryz.prog rxA kk rfl rfl (okf rfl) _ A).trans (n108 ..).2
noncomputable def n108_0 : Nf (loopB M Tryz.prog rxHint kk call dcall lp 108 [0, 0, 1, 1, 1, 1, 1] [A0] e A) := ⟨_, by conv => lhs; reduce; simp only [go_sem, Int.reduceOfNat, Int.reduceNegSucc, UInt8.reduceOfNat]⟩
theorem q108_0 : LP Tryz.prog rxA 108 [0, 0, 1, 1, 1, 1, 1] [A0] e A = (n108_0 mL (Run Tryz.prog rxA) (Dcall Tryz.prog rxA) (LP Tryz.prog rxA) A A0 e).1 := (LP_eq Tryz.prog rxA kk (okf rfl) rfl e A).trans (n108_0 ..).2
noncomputable def n50 : Nf (bodyR M Tryz.prog rxHint kk call dcall lp 50 [a0] A) := ⟨_, by conv => lhs; reduce; simp only [go_sem, Int.reduceOfNat, Int.reduceNegSucc, UInt8.reduceOfNat]⟩
noncomputable def f50 : ORes := (n50 mL (Run Tryz.prog rxA) (Dcall Tryz.prog rxA) (LP Tryz.prog rxA) a0 A).1
theorem r50 : Run Tryz.prog rxA 50 [a0] A = f50 a0.canon A := (qbi Tryz.prog rxA kk rfl rfl (okf rfl) _ A).trans (n50 ..).2
noncomputable def n50_0 : Nf (loopB M Tryz.prog rxHint kk call dcall lp 50 [0, 1, 0, 1] [A0] e A) := ⟨_, by conv => lhs; reduce; simp only [go_sem, Int.reduceOfNat, Int.reduceNegSucc, UInt8.reduceOfNat]⟩
theorem q50_0 : LP Tryz.prog rxA 50 [0, 1, 0, 1] [A0] e A = (n50_0 mL (Run Tryz.prog rxA) (Dcall Tryz.prog rxA) (LP Tryz.prog rxA) A A0 e).1 := (LP_eq Tryz.prog rxA kk (okf rfl) rfl e A).trans (n50_0 ..).2
noncomputable def n54 : Nf (bodyR M Tryz.prog rxHint kk call dcall lp 54 [a0] A) := ⟨_, by conv => lhs; reduce; simp only [go_sem, Int.reduceOfNat, Int.reduceNegSucc, UInt8.reduceOfNat]⟩
noncomputable def f54 : ORes := (n54 mL (Run Tryz.prog rxA) (Dcall Tryz.prog rxA) (LP Tryz.prog rxA) a0 A).1
theorem r54 : Run Tryz.prog rxA 54 [a0] A = f54 a0.canon A := (qbi Tryz.prog rxA kk rfl rfl (okf rfl) _ A).trans (n54 ..).2
noncomputable def n54_0 : Nf (loopB M Tryz.prog rxHint kk call dcall lp 54 [0, 1, 0, 1, 1] [A0] e A) := ⟨_, by conv => lhs; reduce; simp only [go_sem, Int.reduceOfNat, Int.reduceNegSucc, UInt8.reduceOfNat]⟩
theorem q54_0 : LP Tryz.prog rxA 54 [0, 1, 0, 1, 1] [A0] e A = (n54_0 mL (Run Tryz.prog rxA) (Dcall Tryz.prog rxA) (LP Tryz.prog rxA) A A0 e).1 := (LP_eq Tryz.prog rxA kk (okf rfl) rfl e A).trans (n54_0 ..).2
noncomputable def n54_1 : Nf (loopB M Tryz.prog rxHint kk call dcall lp 54 [0, 1, 0, 1, 1, 1, 1] [A0] e A) := ⟨_, by conv => lhs; reduce; simp only [go_sem, Int.reduceOfNat, Int.reduceNegSucc, UInt8.reduceOfNat]⟩
theorem q54_1 : LP Tryz.prog rxA 54 [0, 1, 0, 1, 1, 1, 1] [A0] e A = (n54_1 mL (Run Tryz.prog rxA) (Dcall Tryz.prog rxA) (LP Tryz.prog rxA) A A0 e).1 := (LP_eq Tryz.prog rxA kk (okf rfl) rfl e A).trans (n54_1 ..).2
noncomputable def n40 : Nf (bodyR M Tryz.prog rxHint kk call dcall lp 40 [a0, a1] A) := ⟨_, by conv => lhs; reduce; simp only [go_sem, Int.reduceOfNat, Int.reduceNegSucc, UInt8.reduceOfNat]⟩
noncomputable def f40 : ORes := (n40 mL (Run Tryz.prog rxA) (Dcall Tryz.prog rxA) (LP Tryz.prog rxA) a0 a1 A).1
theorem r40 : Run Tryz.prog rxA 40 [a0, a1] A = f40 a0.canon a1.canon A := (qbi Tryz.prog rxA kk rfl rfl (okf rfl) _ A).trans (n40 ..).2
noncomputable def n40_0 : Nf (loopB M Tryz.prog rxHint kk call dcall lp 40 [0, 1, 0, 1, 1] [A0] e A) := ⟨_, by conv => lhs; reduce; simp only [go_sem, Int.reduceOfNat, Int.reduceNegSucc, UInt8.reduceOfNat]⟩
theorem q40_0 : LP Tryz.prog rxA 40 [0, 1, 0, 1, 1] [A0] e A = (n40_0 mL (Run Tryz.prog rxA) (Dcall Tryz.prog rxA) (LP Tryz.prog rxA) A A0 e).1 := (LP_eq Tryz.prog rxA kk (okf rfl) rfl e A).trans (n40_0 ..).2
noncomputable def n24 : Nf (bodyR M Tryz.prog rxHint kk call dcall lp 24 [a0, a1, a2, a3] A) := ⟨_, by conv => lhs; reduce; simp only [go_sem, Int.reduceOfNat, Int.reduceNegSucc, UInt8.reduceOfNat]⟩
noncomputable def n112 : Nf (bodyR M Tryz.prog rxHint kk call dcall lp 112 [a0, a1, a2] A) := ⟨_, by conv => lhs; reduce; simp only [go_sem, Int.reduceOfNat, Int.reduceNegSucc, UInt8.reduceOfNat]⟩
noncomputable def n62 : Nf (bodyR M Tryz.prog rxHint kk call dcall lp 62 [a0, a1] A) := ⟨_, by conv => lhs; reduce; simp only [go_sem, Int.reduceOfNat, Int.reduceNegSucc, UInt8.reduceOfNat]⟩
noncomputable def n138 : Nf (bodyR M Tryz.prog rxHint kk call dcall lp 138 [a0] A) := ⟨_, by conv => lhs; reduce; simp only [go_sem, Int.reduceOfNat, Int.reduceNegSucc, UInt8.reduceOfNat]⟩
noncomputable def f138 : ORes := (n138 mL (Run Tryz.prog rxA) (Dcall Tryz.prog rxA) (LP Tryz.prog rxA) a0 A).1
theorem r138 : Run Tryz.prog rxA 138 [a0] A = f138 a0.canon A := (qbi Tryz.prog rxA kk rfl rfl (okf rfl) _ A).trans (n138 ..).2
noncomputable def n114 : Nf (bodyR M Tryz.prog rxHint kk call dcall lp 114 [a0, a1] A) := ⟨_, by conv => lhs; reduce; simp only [go_sem, Int.reduceOfNat, Int.reduceNegSucc, UInt8.reduceOfNat]⟩
noncomputable def n120 : Nf (bodyR M Tryz.prog rxHint kk call dcall lp 120 [a0, a1] A) := ⟨_, by conv => lhs; reduce; simp only [go_sem, Int.reduceOfNat, Int.reduceNegSucc, UInt8.reduceOfNat]⟩
noncomputable def f120 : ORes := (n120 mL (Run Tryz.prog rxA) (Dcall Tryz.prog rxA) (LP Tryz.prog rxA) a0 a1 A).1
theorem r120 : Run Tryz.prog rxA 120 [a0, a1] A = f120 a0.canon a1.canon A := (qbi Tryz.prog rxA kk rfl rfl (okf rfl) _ A).trans (n120 ..).2
noncomputable def n137 : Nf (bodyR M Tryz.prog rxHint kk call dcall lp 137 [a0, a1] A) := ⟨_, by conv => lhs; reduce; simp only [go_sem, Int.reduceOfNat, Int.reduceNegSucc, UInt8.reduceOfNat]⟩
noncomputable def f137 : ORes := (n137 mL (Run Tryz.prog rxA) (Dcall Tryz.prog rxA) (LP Tryz.prog rxA) a0 a1 A).1
theorem r137 : Run Tryz.prog rxA 137 [a0, a1] A = f137 a0.canon a1.canon A := (qbi Tryz.prog rxA kk rfl rfl (okf rfl) _ A).trans (n137 ..).2
noncomputable def n90 : Nf (bodyR M Tryz.prog rxHint kk call dcall lp 90 [] A) := ⟨_, by conv => lhs; reduce; simp only [go_sem, Int.reduceOfNat, Int.reduceNegSucc, UInt8.reduceOfNat]⟩
noncomputable def f90 : ORes := (n90 mL (Run Tryz.prog rxA) (Dcall Tryz.prog rxA) (LP Tryz.prog rxA) A).1
theorem r90 : Run Tryz.prog rxA 90 [] A = f90  A := (qbi Tryz.prog rxA kk rfl rfl (okf rfl) _ A).trans (n90 ..).2
end Go.Vm.Rx
