/- RxN4, RxN5 in one text. -/
import Derived.Test.YtagmpieoalkneaaGreatDoorRxOk
set_option linter.all false
namespace Go.Vm.Rx
open Go.Proofs
set_option maxRecDepth 100000
set_option maxHeartbeats 0
attribute [local irreducible] bn mp ifb D.bool? D.int? D.str? D.agg? D.cell? D.cellsT ofCells guardB layCells eqOf binO unD convO sliceStrO sliceSlO fieldAddrO fieldO indexAddrO indexStrO assertV extractD nilCheckD lenStrO lenSlO minMaxD loadO storeO boxO sliceParts makeO appendO litO tokO deferO bytesConvO panicD applyD Kept leaveD D.shut D.shutL guardP leavesD shV recBusy recSet closeSt endX seqCall seqI exS leaveM cAt cAtI D.canon D.canonL Res.elim allocO sLen sApp sTake gkM gsM gwM clM jn Env.g yldB
variable (M : Mode) (call : CallT) (dcall : DcallT) (lp : LpT) (a0 a1 a2 a3 a4 : D) (A A0 A1 A2 : St) (e : Env)
noncomputable def n125 : Nf (bodyR M Tryz.prog rxHint kk call dcall lp 125 [a0,a1,a2] A):=⟨_,by conv => lhs; reduce; simp only [go_sem,Int.reduceOfNat,Int.reduceNegSucc,UInt8.reduceOfNat]⟩
noncomputable def f125 : ORes:=(n125 mL (Run Tryz.prog rxA) (Dcall Tryz.prog rxA) (LP Tryz.prog rxA) a0 a1 a2 A).1
noncomputable def n125_0 : Nf (loopB M Tryz.prog rxHint kk call dcall lp 125 [0,1,0,1,0,1,1,1,1,1,1,1,0,1,0,1,1,1] [A0] e A):=⟨_,by conv => lhs; reduce; simp only [go_sem,Int.reduceOfNat,Int.reduceNegSucc,UInt8.reduceOfNat]⟩
noncomputable def n125_1 : Nf (loopB M Tryz.prog rxHint kk call dcall lp 125 [0,1,0,0,1,1,1,1,1,1,1,1,1,0,1,0,1,1,1] [A0] e A):=⟨_,by conv => lhs; reduce; simp only [go_sem,Int.reduceOfNat,Int.reduceNegSucc,UInt8.reduceOfNat]⟩
noncomputable def n47 : Nf (bodyR M Tryz.prog rxHint kk call dcall lp 47 [a0] A):=⟨_,by conv => lhs; reduce; simp only [go_sem,Int.reduceOfNat,Int.reduceNegSucc,UInt8.reduceOfNat]⟩
noncomputable def n47_0 : Nf (loopB M Tryz.prog rxHint kk call dcall lp 47 [0,1,0,1,1] [A0] e A):=⟨_,by conv => lhs; reduce; simp only [go_sem,Int.reduceOfNat,Int.reduceNegSucc,UInt8.reduceOfNat]⟩
noncomputable def n47_1 : Nf (loopB M Tryz.prog rxHint kk call dcall lp 47 [0,1,0,1,1,1,1,1,1] [A0] e A):=⟨_,by conv => lhs; reduce; simp only [go_sem,Int.reduceOfNat,Int.reduceNegSucc,UInt8.reduceOfNat]⟩
noncomputable def n47_2 : Nf (loopB M Tryz.prog rxHint kk call dcall lp 47 [0,1,0,0,1,0,0,1,0,1,1,1,1,1,1] [A1,A0] e A):=⟨_,by conv => lhs; reduce; simp only [go_sem,Int.reduceOfNat,Int.reduceNegSucc,UInt8.reduceOfNat]⟩
noncomputable def n52 : Nf (bodyR M Tryz.prog rxHint kk call dcall lp 52 [a0] A):=⟨_,by conv => lhs; reduce; simp only [go_sem,Int.reduceOfNat,Int.reduceNegSucc,UInt8.reduceOfNat]⟩
noncomputable def n52_0 : Nf (loopB M Tryz.prog rxHint kk call dcall lp 52 [0,1,0,1,1] [A0] e A):=⟨_,by conv => lhs; reduce; simp only [go_sem,Int.reduceOfNat,Int.reduceNegSucc,UInt8.reduceOfNat]⟩
noncomputable def n8 : Nf (bodyR M Tryz.prog rxHint kk call dcall lp 8 [a0] A):=⟨_,by conv => lhs; reduce; simp only [go_sem,Int.reduceOfNat,Int.reduceNegSucc,UInt8.reduceOfNat]⟩
noncomputable def f8 : ORes:=(n8 mL (Run Tryz.prog rxA) (Dcall Tryz.prog rxA) (LP Tryz.prog rxA) a0 A).1
theorem r8 : Run Tryz.prog rxA 8 [a0] A = f8 a0.canon A:=(qbk Tryz.prog rxA kk rfl rfl (okf rfl) _ A).trans (n8 ..).2
noncomputable def n8_0 : Nf (loopB M Tryz.prog rxHint kk call dcall lp 8 [0,1,0,1,1,1,1] [A0] e A):=⟨_,by conv => lhs; reduce; simp only [go_sem,Int.reduceOfNat,Int.reduceNegSucc,UInt8.reduceOfNat]⟩
theorem q8_0 : LP Tryz.prog rxA 8 [0,1,0,1,1,1,1] [A0] e A = (n8_0 mL (Run Tryz.prog rxA) (Dcall Tryz.prog rxA) (LP Tryz.prog rxA) A A0 e).1:=(LP_eq Tryz.prog rxA kk (okf rfl) rfl e A).trans (n8_0 ..).2
noncomputable def n69 : Nf (bodyR M Tryz.prog rxHint kk call dcall lp 69 [a0,a1] A):=⟨_,by conv => lhs; reduce; simp only [go_sem,Int.reduceOfNat,Int.reduceNegSucc,UInt8.reduceOfNat]⟩
noncomputable def n69_0 : Nf (loopB M Tryz.prog rxHint kk call dcall lp 69 [0,1,0,1,1] [A0] e A):=⟨_,by conv => lhs; reduce; simp only [go_sem,Int.reduceOfNat,Int.reduceNegSucc,UInt8.reduceOfNat]⟩
noncomputable def n135 : Nf (bodyR M Tryz.prog rxHint kk call dcall lp 135 [a0,a1,a2,a3] A):=⟨_,by conv => lhs; reduce; simp only [go_sem,Int.reduceOfNat,Int.reduceNegSucc,UInt8.reduceOfNat]⟩
noncomputable def f135 : ORes:=(n135 mL (Run Tryz.prog rxA) (Dcall Tryz.prog rxA) (LP Tryz.prog rxA) a0 a1 a2 a3 A).1
theorem r135 : Run Tryz.prog rxA 135 [a0,a1,a2,a3] A = f135 a0.canon a1.canon a2.canon a3.canon A:=(qbk Tryz.prog rxA kk rfl rfl (okf rfl) _ A).trans (n135 ..).2
noncomputable def n135_0 : Nf (loopB M Tryz.prog rxHint kk call dcall lp 135 [0,0,0,1,0] [A0] e A):=⟨_,by conv => lhs; reduce; simp only [go_sem,Int.reduceOfNat,Int.reduceNegSucc,UInt8.reduceOfNat]⟩
noncomputable def n135_1 : Nf (loopB M Tryz.prog rxHint kk call dcall lp 135 [0,0,1] [A0] e A):=⟨_,by conv => lhs; reduce; simp only [go_sem,Int.reduceOfNat,Int.reduceNegSucc,UInt8.reduceOfNat]⟩
theorem q135_1 : LP Tryz.prog rxA 135 [0,0,1] [A0] e A = (n135_1 mL (Run Tryz.prog rxA) (Dcall Tryz.prog rxA) (LP Tryz.prog rxA) A A0 e).1:=(LP_eq Tryz.prog rxA kk (okf rfl) rfl e A).trans (n135_1 ..).2
noncomputable def n45 : Nf (bodyR M Tryz.prog rxHint kk call dcall lp 45 [a0] A):=⟨_,by conv => lhs; reduce; simp only [go_sem,Int.reduceOfNat,Int.reduceNegSucc,UInt8.reduceOfNat]⟩
noncomputable def f45 : ORes:=(n45 mL (Run Tryz.prog rxA) (Dcall Tryz.prog rxA) (LP Tryz.prog rxA) a0 A).1
theorem r45 : Run Tryz.prog rxA 45 [a0] A = f45 a0.canon A:=(qbk Tryz.prog rxA kk rfl rfl (okf rfl) _ A).trans (n45 ..).2
noncomputable def n45_0 : Nf (loopB M Tryz.prog rxHint kk call dcall lp 45 [0,1,0,1,1] [A0] e A):=⟨_,by conv => lhs; reduce; simp only [go_sem,Int.reduceOfNat,Int.reduceNegSucc,UInt8.reduceOfNat]⟩
theorem q45_0 : LP Tryz.prog rxA 45 [0,1,0,1,1] [A0] e A = (n45_0 mL (Run Tryz.prog rxA) (Dcall Tryz.prog rxA) (LP Tryz.prog rxA) A A0 e).1:=(LP_eq Tryz.prog rxA kk (okf rfl) rfl e A).trans (n45_0 ..).2
noncomputable def n41 : Nf (bodyR M Tryz.prog rxHint kk call dcall lp 41 [a0,a1] A):=⟨_,by conv => lhs; reduce; simp only [go_sem,Int.reduceOfNat,Int.reduceNegSucc,UInt8.reduceOfNat]⟩
noncomputable def f41 : ORes:=(n41 mL (Run Tryz.prog rxA) (Dcall Tryz.prog rxA) (LP Tryz.prog rxA) a0 a1 A).1
theorem r41 : Run Tryz.prog rxA 41 [a0,a1] A = f41 a0.canon a1.canon A:=(qbk Tryz.prog rxA kk rfl rfl (okf rfl) _ A).trans (n41 ..).2
noncomputable def n41_0 : Nf (loopB M Tryz.prog rxHint kk call dcall lp 41 [0,1,0,1,1] [A0] e A):=⟨_,by conv => lhs; reduce; simp only [go_sem,Int.reduceOfNat,Int.reduceNegSucc,UInt8.reduceOfNat]⟩
theorem q41_0 : LP Tryz.prog rxA 41 [0,1,0,1,1] [A0] e A = (n41_0 mL (Run Tryz.prog rxA) (Dcall Tryz.prog rxA) (LP Tryz.prog rxA) A A0 e).1:=(LP_eq Tryz.prog rxA kk (okf rfl) rfl e A).trans (n41_0 ..).2
noncomputable def n116 : Nf (bodyR M Tryz.prog rxHint kk call dcall lp 116 [a0] A):=⟨_,by conv => lhs; reduce; simp only [go_sem,Int.reduceOfNat,Int.reduceNegSucc,UInt8.reduceOfNat]⟩
noncomputable def n116_0 : Nf (loopB M Tryz.prog rxHint kk call dcall lp 116 [0,1,0,1,1,1] [A0] e A):=⟨_,by conv => lhs; reduce; simp only [go_sem,Int.reduceOfNat,Int.reduceNegSucc,UInt8.reduceOfNat]⟩
noncomputable def n204 : Nf (bodyR M Tryz.prog rxHint kk call dcall lp 204 [a0] A):=⟨_,by conv => lhs; reduce; simp only [go_sem,Int.reduceOfNat,Int.reduceNegSucc,UInt8.reduceOfNat]⟩
noncomputable def n204_0 : Nf (loopB M Tryz.prog rxHint kk call dcall lp 204 [0,1,0,1,1] [A0] e A):=⟨_,by conv => lhs; reduce; simp only [go_sem,Int.reduceOfNat,Int.reduceNegSucc,UInt8.reduceOfNat]⟩
noncomputable def n204_1 : Nf (loopB M Tryz.prog rxHint kk call dcall lp 204 [0,1,0,1,1,1,1] [A0] e A):=⟨_,by conv => lhs; reduce; simp only [go_sem,Int.reduceOfNat,Int.reduceNegSucc,UInt8.reduceOfNat]⟩
noncomputable def n173 : Nf (bodyR M Tryz.prog rxHint kk call dcall lp 173 [a0] A):=⟨_,by conv => lhs; reduce; simp only [go_sem,Int.reduceOfNat,Int.reduceNegSucc,UInt8.reduceOfNat]⟩
noncomputable def f173 : ORes:=(n173 mL (Run Tryz.prog rxA) (Dcall Tryz.prog rxA) (LP Tryz.prog rxA) a0 A).1
noncomputable def n173_0 : Nf (loopB M Tryz.prog rxHint kk call dcall lp 173 [0,0,1,1] [A0] e A):=⟨_,by conv => lhs; reduce; simp only [go_sem,Int.reduceOfNat,Int.reduceNegSucc,UInt8.reduceOfNat]⟩
noncomputable def n49 : Nf (bodyR M Tryz.prog rxHint kk call dcall lp 49 [a0] A):=⟨_,by conv => lhs; reduce; simp only [go_sem,Int.reduceOfNat,Int.reduceNegSucc,UInt8.reduceOfNat]⟩
noncomputable def n49_0 : Nf (loopB M Tryz.prog rxHint kk call dcall lp 49 [0,1,0,1] [A0] e A):=⟨_,by conv => lhs; reduce; simp only [go_sem,Int.reduceOfNat,Int.reduceNegSucc,UInt8.reduceOfNat]⟩
noncomputable def n92 : Nf (bodyR M Tryz.prog rxHint kk call dcall lp 92 [a0] A):=⟨_,by conv => lhs; reduce; simp only [go_sem,Int.reduceOfNat,Int.reduceNegSucc,UInt8.reduceOfNat]⟩
noncomputable def n88 : Nf (bodyR M Tryz.prog rxHint kk call dcall lp 88 [a0] A):=⟨_,by conv => lhs; reduce; simp only [go_sem,Int.reduceOfNat,Int.reduceNegSucc,UInt8.reduceOfNat]⟩
noncomputable def n119 : Nf (bodyR M Tryz.prog rxHint kk call dcall lp 119 [a0,a1] A):=⟨_,by conv => lhs; reduce; simp only [go_sem,Int.reduceOfNat,Int.reduceNegSucc,UInt8.reduceOfNat]⟩
noncomputable def f119 : ORes:=(n119 mL (Run Tryz.prog rxA) (Dcall Tryz.prog rxA) (LP Tryz.prog rxA) a0 a1 A).1
theorem r119 : Run Tryz.prog rxA 119 [a0,a1] A = f119 a0.canon a1.canon A:=(qbk Tryz.prog rxA kk rfl rfl (okf rfl) _ A).trans (n119 ..).2
noncomputable def n119_0 : Nf (loopB M Tryz.prog rxHint kk call dcall lp 119 [0,1,0,1,1] [A0] e A):=⟨_,by conv => lhs; reduce; simp only [go_sem,Int.reduceOfNat,Int.reduceNegSucc,UInt8.reduceOfNat]⟩
theorem q119_0 : LP Tryz.prog rxA 119 [0,1,0,1,1] [A0] e A = (n119_0 mL (Run Tryz.prog rxA) (Dcall Tryz.prog rxA) (LP Tryz.prog rxA) A A0 e).1:=(LP_eq Tryz.prog rxA kk (okf rfl) rfl e A).trans (n119_0 ..).2
noncomputable def n81 : Nf (bodyR M Tryz.prog rxHint kk call dcall lp 81 [a0,a1] A):=⟨_,by conv => lhs; reduce; simp only [go_sem,Int.reduceOfNat,Int.reduceNegSucc,UInt8.reduceOfNat]⟩
noncomputable def f81 : ORes:=(n81 mL (Run Tryz.prog rxA) (Dcall Tryz.prog rxA) (LP Tryz.prog rxA) a0 a1 A).1
theorem r81 : Run Tryz.prog rxA 81 [a0,a1] A = f81 a0.canon a1.canon A:=(qbk Tryz.prog rxA kk rfl rfl (okf rfl) _ A).trans (n81 ..).2
noncomputable def n81_0 : Nf (loopB M Tryz.prog rxHint kk call dcall lp 81 [0,1,0,1,1] [A0] e A):=⟨_,by conv => lhs; reduce; simp only [go_sem,Int.reduceOfNat,Int.reduceNegSucc,UInt8.reduceOfNat]⟩
theorem q81_0 : LP Tryz.prog rxA 81 [0,1,0,1,1] [A0] e A = (n81_0 mL (Run Tryz.prog rxA) (Dcall Tryz.prog rxA) (LP Tryz.prog rxA) A A0 e).1:=(LP_eq Tryz.prog rxA kk (okf rfl) rfl e A).trans (n81_0 ..).2
noncomputable def n95 : Nf (bodyR M Tryz.prog rxHint kk call dcall lp 95 [a0,a1] A):=⟨_,by conv => lhs; reduce; simp only [go_sem,Int.reduceOfNat,Int.reduceNegSucc,UInt8.reduceOfNat]⟩
noncomputable def n95_0 : Nf (loopB M Tryz.prog rxHint kk call dcall lp 95 [0,1,0,1,1] [A0] e A):=⟨_,by conv => lhs; reduce; simp only [go_sem,Int.reduceOfNat,Int.reduceNegSucc,UInt8.reduceOfNat]⟩
noncomputable def n79 : Nf (bodyR M Tryz.prog rxHint kk call dcall lp 79 [a0] A):=⟨_,by conv => lhs; reduce; simp only [go_sem,Int.reduceOfNat,Int.reduceNegSucc,UInt8.reduceOfNat]⟩
noncomputable def n31 : Nf (bodyR M Tryz.prog rxHint kk call dcall lp 31 [a0,a1] A):=⟨_,by conv => lhs; reduce; simp only [go_sem,Int.reduceOfNat,Int.reduceNegSucc,UInt8.reduceOfNat]⟩
noncomputable def n31_0 : Nf (loopB M Tryz.prog rxHint kk call dcall lp 31 [0,1,0,1] [A0] e A):=⟨_,by conv => lhs; reduce; simp only [go_sem,Int.reduceOfNat,Int.reduceNegSucc,UInt8.reduceOfNat]⟩
noncomputable def n153 : Nf (bodyR M Tryz.prog rxHint kk call dcall lp 153 [a0,a1] A):=⟨_,by conv => lhs; reduce; simp only [go_sem,Int.reduceOfNat,Int.reduceNegSucc,UInt8.reduceOfNat]⟩
noncomputable def f153 : ORes:=(n153 mL (Run Tryz.prog rxA) (Dcall Tryz.prog rxA) (LP Tryz.prog rxA) a0 a1 A).1
theorem r153 : Run Tryz.prog rxA 153 [a0,a1] A = f153 a0.canon a1.canon A:=(qbk Tryz.prog rxA kk rfl rfl (okf rfl) _ A).trans (n153 ..).2
noncomputable def n153_0 : Nf (loopB M Tryz.prog rxHint kk call dcall lp 153 [0,1,0,1] [A0] e A):=⟨_,by conv => lhs; reduce; simp only [go_sem,Int.reduceOfNat,Int.reduceNegSucc,UInt8.reduceOfNat]⟩
theorem q153_0 : LP Tryz.prog rxA 153 [0,1,0,1] [A0] e A = (n153_0 mL (Run Tryz.prog rxA) (Dcall Tryz.prog rxA) (LP Tryz.prog rxA) A A0 e).1:=(LP_eq Tryz.prog rxA kk (okf rfl) rfl e A).trans (n153_0 ..).2
noncomputable def n51 : Nf (bodyR M Tryz.prog rxHint kk call dcall lp 51 [a0] A):=⟨_,by conv => lhs; reduce; simp only [go_sem,Int.reduceOfNat,Int.reduceNegSucc,UInt8.reduceOfNat]⟩
noncomputable def n36 : Nf (bodyR M Tryz.prog rxHint kk call dcall lp 36 [a0,a1,a2] A):=⟨_,by conv => lhs; reduce; simp only [go_sem,Int.reduceOfNat,Int.reduceNegSucc,UInt8.reduceOfNat]⟩
noncomputable def f36 : ORes:=(n36 mL (Run Tryz.prog rxA) (Dcall Tryz.prog rxA) (LP Tryz.prog rxA) a0 a1 a2 A).1
theorem r36 : Run Tryz.prog rxA 36 [a0,a1,a2] A = f36 a0.canon a1.canon a2.canon A:=(qbk Tryz.prog rxA kk rfl rfl (okf rfl) _ A).trans (n36 ..).2
noncomputable def n28 : Nf (bodyR M Tryz.prog rxHint kk call dcall lp 28 [a0,a1] A):=⟨_,by conv => lhs; reduce; simp only [go_sem,Int.reduceOfNat,Int.reduceNegSucc,UInt8.reduceOfNat]⟩
noncomputable def f28 : ORes:=(n28 mL (Run Tryz.prog rxA) (Dcall Tryz.prog rxA) (LP Tryz.prog rxA) a0 a1 A).1
theorem r28 : Run Tryz.prog rxA 28 [a0,a1] A = f28 a0.canon a1.canon A:=(qbk Tryz.prog rxA kk rfl rfl (okf rfl) _ A).trans (n28 ..).2
noncomputable def n33 : Nf (bodyR M Tryz.prog rxHint kk call dcall lp 33 [a0,a1] A):=⟨_,by conv => lhs; reduce; simp only [go_sem,Int.reduceOfNat,Int.reduceNegSucc,UInt8.reduceOfNat]⟩
noncomputable def f33 : ORes:=(n33 mL (Run Tryz.prog rxA) (Dcall Tryz.prog rxA) (LP Tryz.prog rxA) a0 a1 A).1
theorem r33 : Run Tryz.prog rxA 33 [a0,a1] A = f33 a0.canon a1.canon A:=(qbk Tryz.prog rxA kk rfl rfl (okf rfl) _ A).trans (n33 ..).2
noncomputable def n60 : Nf (bodyR M Tryz.prog rxHint kk call dcall lp 60 [a0,a1] A):=⟨_,by conv => lhs; reduce; simp only [go_sem,Int.reduceOfNat,Int.reduceNegSucc,UInt8.reduceOfNat]⟩
noncomputable def f60 : ORes:=(n60 mL (Run Tryz.prog rxA) (Dcall Tryz.prog rxA) (LP Tryz.prog rxA) a0 a1 A).1
theorem r60 : Run Tryz.prog rxA 60 [a0,a1] A = f60 a0.canon a1.canon A:=(qbk Tryz.prog rxA kk rfl rfl (okf rfl) _ A).trans (n60 ..).2
noncomputable def n167 : Nf (bodyR M Tryz.prog rxHint kk call dcall lp 167 [a0,a1] A):=⟨_,by conv => lhs; reduce; simp only [go_sem,Int.reduceOfNat,Int.reduceNegSucc,UInt8.reduceOfNat]⟩
noncomputable def f167 : ORes:=(n167 mL (Run Tryz.prog rxA) (Dcall Tryz.prog rxA) (LP Tryz.prog rxA) a0 a1 A).1
theorem r167 : Run Tryz.prog rxA 167 [a0,a1] A = f167 a0.canon a1.canon A:=(qbk Tryz.prog rxA kk rfl rfl (okf rfl) _ A).trans (n167 ..).2
end Go.Vm.Rx

namespace Go.Vm.Rx
open Go.Proofs
set_option maxRecDepth 100000
set_option maxHeartbeats 0
attribute [local irreducible] bn mp ifb D.bool? D.int? D.str? D.agg? D.cell? D.cellsT ofCells guardB layCells eqOf binO unD convO sliceStrO sliceSlO fieldAddrO fieldO indexAddrO indexStrO assertV extractD nilCheckD lenStrO lenSlO minMaxD loadO storeO boxO sliceParts makeO appendO litO tokO deferO bytesConvO panicD applyD Kept leaveD D.shut D.shutL guardP leavesD shV recBusy recSet closeSt endX seqCall seqI exS leaveM cAt cAtI D.canon D.canonL Res.elim allocO sLen sApp sTake gkM gsM gwM clM jn Env.g yldB
variable (M : Mode) (call : CallT) (dcall : DcallT) (lp : LpT) (a0 a1 a2 a3 a4 : D) (A A0 A1 A2 : St) (e : Env)
noncomputable def n104 : Nf (bodyR M Tryz.prog rxHint kk call dcall lp 104 [a0,a1] A):=⟨_,by conv => lhs; reduce; simp only [go_sem,Int.reduceOfNat,Int.reduceNegSucc,UInt8.reduceOfNat]⟩
noncomputable def n104_0 : Nf (loopB M Tryz.prog rxHint kk call dcall lp 104 [0,1,0,1,1,1,1] [A0] e A):=⟨_,by conv => lhs; reduce; simp only [go_sem,Int.reduceOfNat,Int.reduceNegSucc,UInt8.reduceOfNat]⟩
noncomputable def n86 : Nf (bodyR M Tryz.prog rxHint kk call dcall lp 86 [a0,a1] A):=⟨_,by conv => lhs; reduce; simp only [go_sem,Int.reduceOfNat,Int.reduceNegSucc,UInt8.reduceOfNat]⟩
noncomputable def f86 : ORes:=(n86 mL (Run Tryz.prog rxA) (Dcall Tryz.prog rxA) (LP Tryz.prog rxA) a0 a1 A).1
theorem r86 : Run Tryz.prog rxA 86 [a0,a1] A = f86 a0.canon a1.canon A:=(qbk Tryz.prog rxA kk rfl rfl (okf rfl) _ A).trans (n86 ..).2
noncomputable def n86_0 : Nf (loopB M Tryz.prog rxHint kk call dcall lp 86 [0,1,0,0,1,1,1,1,1,1,1,0,1,0,1,1,1] [A0] e A):=⟨_,by conv => lhs; reduce; simp only [go_sem,Int.reduceOfNat,Int.reduceNegSucc,UInt8.reduceOfNat]⟩
theorem q86_0 : LP Tryz.prog rxA 86 [0,1,0,0,1,1,1,1,1,1,1,0,1,0,1,1,1] [A0] e A = (n86_0 mL (Run Tryz.prog rxA) (Dcall Tryz.prog rxA) (LP Tryz.prog rxA) A A0 e).1:=(LP_eq Tryz.prog rxA kk (okf rfl) rfl e A).trans (n86_0 ..).2
noncomputable def n86_1 : Nf (loopB M Tryz.prog rxHint kk call dcall lp 86 [0,1,0,1,0,1,1,1,1,1,1,1,1,1,0,1,0,1,1,1] [A0] e A):=⟨_,by conv => lhs; reduce; simp only [go_sem,Int.reduceOfNat,Int.reduceNegSucc,UInt8.reduceOfNat]⟩
theorem q86_1 : LP Tryz.prog rxA 86 [0,1,0,1,0,1,1,1,1,1,1,1,1,1,0,1,0,1,1,1] [A0] e A = (n86_1 mL (Run Tryz.prog rxA) (Dcall Tryz.prog rxA) (LP Tryz.prog rxA) A A0 e).1:=(LP_eq Tryz.prog rxA kk (okf rfl) rfl e A).trans (n86_1 ..).2
noncomputable def n14 : Nf (bodyR M Tryz.prog rxHint kk call dcall lp 14 [a0] A):=⟨_,by conv => lhs; reduce; simp only [go_sem,Int.reduceOfNat,Int.reduceNegSucc,UInt8.reduceOfNat]⟩
noncomputable def f14 : ORes:=(n14 mL (Run Tryz.prog rxA) (Dcall Tryz.prog rxA) (LP Tryz.prog rxA) a0 A).1
theorem r14 : Run Tryz.prog rxA 14 [a0] A = f14 a0.canon A:=(qbk Tryz.prog rxA kk rfl rfl (okf rfl) _ A).trans (n14 ..).2
noncomputable def n14_0 : Nf (loopB M Tryz.prog rxHint kk call dcall lp 14 [0,1,0,1,1] [A0] e A):=⟨_,by conv => lhs; reduce; simp only [go_sem,Int.reduceOfNat,Int.reduceNegSucc,UInt8.reduceOfNat]⟩
theorem q14_0 : LP Tryz.prog rxA 14 [0,1,0,1,1] [A0] e A = (n14_0 mL (Run Tryz.prog rxA) (Dcall Tryz.prog rxA) (LP Tryz.prog rxA) A A0 e).1:=(LP_eq Tryz.prog rxA kk (okf rfl) rfl e A).trans (n14_0 ..).2
noncomputable def n152 : Nf (bodyR M Tryz.prog rxHint kk call dcall lp 152 [a0,a1] A):=⟨_,by conv => lhs; reduce; simp only [go_sem,Int.reduceOfNat,Int.reduceNegSucc,UInt8.reduceOfNat]⟩
noncomputable def n152_0 : Nf (loopB M Tryz.prog rxHint kk call dcall lp 152 [0,1,0,1,1,1] [A0] e A):=⟨_,by conv => lhs; reduce; simp only [go_sem,Int.reduceOfNat,Int.reduceNegSucc,UInt8.reduceOfNat]⟩
noncomputable def n94 : Nf (bodyR M Tryz.prog rxHint kk call dcall lp 94 [a0,a1,a2] A):=⟨_,by conv => lhs; reduce; simp only [go_sem,Int.reduceOfNat,Int.reduceNegSucc,UInt8.reduceOfNat]⟩
noncomputable def n94_0 : Nf (loopB M Tryz.prog rxHint kk call dcall lp 94 [0,1,0,1,1,1] [A0] e A):=⟨_,by conv => lhs; reduce; simp only [go_sem,Int.reduceOfNat,Int.reduceNegSucc,UInt8.reduceOfNat]⟩
noncomputable def n4 : Nf (bodyR M Tryz.prog rxHint kk call dcall lp 4 [a0] A):=⟨_,by conv => lhs; reduce; simp only [go_sem,Int.reduceOfNat,Int.reduceNegSucc,UInt8.reduceOfNat]⟩
noncomputable def f4 : ORes:=(n4 mL (Run Tryz.prog rxA) (Dcall Tryz.prog rxA) (LP Tryz.prog rxA) a0 A).1
theorem r4 : Run Tryz.prog rxA 4 [a0] A = f4 a0.canon A:=(qbk Tryz.prog rxA kk rfl rfl (okf rfl) _ A).trans (n4 ..).2
noncomputable def n46 : Nf (bodyR M Tryz.prog rxHint kk call dcall lp 46 [a0] A):=⟨_,by conv => lhs; reduce; simp only [go_sem,Int.reduceOfNat,Int.reduceNegSucc,UInt8.reduceOfNat]⟩
noncomputable def n46_0 : Nf (loopB M Tryz.prog rxHint kk call dcall lp 46 [0,1,0,1] [A0] e A):=⟨_,by conv => lhs; reduce; simp only [go_sem,Int.reduceOfNat,Int.reduceNegSucc,UInt8.reduceOfNat]⟩
noncomputable def n46_1 : Nf (loopB M Tryz.prog rxHint kk call dcall lp 46 [0,1,0,1,1,1] [A0] e A):=⟨_,by conv => lhs; reduce; simp only [go_sem,Int.reduceOfNat,Int.reduceNegSucc,UInt8.reduceOfNat]⟩
noncomputable def n12 : Nf (bodyR M Tryz.prog rxHint kk call dcall lp 12 [a0] A):=⟨_,by conv => lhs; reduce; simp only [go_sem,Int.reduceOfNat,Int.reduceNegSucc,UInt8.reduceOfNat]⟩
noncomputable def f12 : ORes:=(n12 mL (Run Tryz.prog rxA) (Dcall Tryz.prog rxA) (LP Tryz.prog rxA) a0 A).1
theorem r12 : Run Tryz.prog rxA 12 [a0] A = f12 a0.canon A:=(qbk Tryz.prog rxA kk rfl rfl (okf rfl) _ A).trans (n12 ..).2
noncomputable def n12_0 : Nf (loopB M Tryz.prog rxHint kk call dcall lp 12 [0,1,0,1,1,1] [A0] e A):=⟨_,by conv => lhs; reduce; simp only [go_sem,Int.reduceOfNat,Int.reduceNegSucc,UInt8.reduceOfNat]⟩
theorem q12_0 : LP Tryz.prog rxA 12 [0,1,0,1,1,1] [A0] e A = (n12_0 mL (Run Tryz.prog rxA) (Dcall Tryz.prog rxA) (LP Tryz.prog rxA) A A0 e).1:=(LP_eq Tryz.prog rxA kk (okf rfl) rfl e A).trans (n12_0 ..).2
noncomputable def n145 : Nf (bodyR M Tryz.prog rxHint kk call dcall lp 145 [a0] A):=⟨_,by conv => lhs; reduce; simp only [go_sem,Int.reduceOfNat,Int.reduceNegSucc,UInt8.reduceOfNat]⟩
noncomputable def f145 : ORes:=(n145 mL (Run Tryz.prog rxA) (Dcall Tryz.prog rxA) (LP Tryz.prog rxA) a0 A).1
theorem r145 : Run Tryz.prog rxA 145 [a0] A = f145 a0.canon A:=(qbk Tryz.prog rxA kk rfl rfl (okf rfl) _ A).trans (n145 ..).2
noncomputable def n145_0 : Nf (loopB M Tryz.prog rxHint kk call dcall lp 145 [0,1,0,1,1] [A0] e A):=⟨_,by conv => lhs; reduce; simp only [go_sem,Int.reduceOfNat,Int.reduceNegSucc,UInt8.reduceOfNat]⟩
theorem q145_0 : LP Tryz.prog rxA 145 [0,1,0,1,1] [A0] e A = (n145_0 mL (Run Tryz.prog rxA) (Dcall Tryz.prog rxA) (LP Tryz.prog rxA) A A0 e).1:=(LP_eq Tryz.prog rxA kk (okf rfl) rfl e A).trans (n145_0 ..).2
noncomputable def n103 : Nf (bodyR M Tryz.prog rxHint kk call dcall lp 103 [a0,a1] A):=⟨_,by conv => lhs; reduce; simp only [go_sem,Int.reduceOfNat,Int.reduceNegSucc,UInt8.reduceOfNat]⟩
noncomputable def n103_0 : Nf (loopB M Tryz.prog rxHint kk call dcall lp 103 [0,1,0,1] [A0] e A):=⟨_,by conv => lhs; reduce; simp only [go_sem,Int.reduceOfNat,Int.reduceNegSucc,UInt8.reduceOfNat]⟩
noncomputable def n67 : Nf (bodyR M Tryz.prog rxHint kk call dcall lp 67 [a0] A):=⟨_,by conv => lhs; reduce; simp only [go_sem,Int.reduceOfNat,Int.reduceNegSucc,UInt8.reduceOfNat]⟩
noncomputable def f67 : ORes:=(n67 mL (Run Tryz.prog rxA) (Dcall Tryz.prog rxA) (LP Tryz.prog rxA) a0 A).1
theorem r67 : Run Tryz.prog rxA 67 [a0] A = f67 a0.canon A:=(qbk Tryz.prog rxA kk rfl rfl (okf rfl) _ A).trans (n67 ..).2
noncomputable def n34 : Nf (bodyR M Tryz.prog rxHint kk call dcall lp 34 [a0] A):=⟨_,by conv => lhs; reduce; simp only [go_sem,Int.reduceOfNat,Int.reduceNegSucc,UInt8.reduceOfNat]⟩
noncomputable def f34 : ORes:=(n34 mL (Run Tryz.prog rxA) (Dcall Tryz.prog rxA) (LP Tryz.prog rxA) a0 A).1
theorem r34 : Run Tryz.prog rxA 34 [a0] A = f34 a0.canon A:=(qbk Tryz.prog rxA kk rfl rfl (okf rfl) _ A).trans (n34 ..).2
noncomputable def n34_0 : Nf (loopB M Tryz.prog rxHint kk call dcall lp 34 [0,1,0,1,1] [A0] e A):=⟨_,by conv => lhs; reduce; simp only [go_sem,Int.reduceOfNat,Int.reduceNegSucc,UInt8.reduceOfNat]⟩
theorem q34_0 : LP Tryz.prog rxA 34 [0,1,0,1,1] [A0] e A = (n34_0 mL (Run Tryz.prog rxA) (Dcall Tryz.prog rxA) (LP Tryz.prog rxA) A A0 e).1:=(LP_eq Tryz.prog rxA kk (okf rfl) rfl e A).trans (n34_0 ..).2
noncomputable def n133 : Nf (bodyR M Tryz.prog rxHint kk call dcall lp 133 [a0,a1,a2] A):=⟨_,by conv => lhs; reduce; simp only [go_sem,Int.reduceOfNat,Int.reduceNegSucc,UInt8.reduceOfNat]⟩
noncomputable def n32 : Nf (bodyR M Tryz.prog rxHint kk call dcall lp 32 [a0,a1] A):=⟨_,by conv => lhs; reduce; simp only [go_sem,Int.reduceOfNat,Int.reduceNegSucc,UInt8.reduceOfNat]⟩
noncomputable def n146 : Nf (bodyR M Tryz.prog rxHint kk call dcall lp 146 [a0,a1] A):=⟨_,by conv => lhs; reduce; simp only [go_sem,Int.reduceOfNat,Int.reduceNegSucc,UInt8.reduceOfNat]⟩
noncomputable def f146 : ORes:=(n146 mL (Run Tryz.prog rxA) (Dcall Tryz.prog rxA) (LP Tryz.prog rxA) a0 a1 A).1
theorem r146 : Run Tryz.prog rxA 146 [a0,a1] A = f146 a0.canon a1.canon A:=(qbk Tryz.prog rxA kk rfl rfl (okf rfl) _ A).trans (n146 ..).2
noncomputable def n96 : Nf (bodyR M Tryz.prog rxHint kk call dcall lp 96 [a0] A):=⟨_,by conv => lhs; reduce; simp only [go_sem,Int.reduceOfNat,Int.reduceNegSucc,UInt8.reduceOfNat]⟩
noncomputable def n96_0 : Nf (loopB M Tryz.prog rxHint kk call dcall lp 96 [0,1,0,1,1] [A0] e A):=⟨_,by conv => lhs; reduce; simp only [go_sem,Int.reduceOfNat,Int.reduceNegSucc,UInt8.reduceOfNat]⟩
noncomputable def n150 : Nf (bodyR M Tryz.prog rxHint kk call dcall lp 150 [a0] A):=⟨_,by conv => lhs; reduce; simp only [go_sem,Int.reduceOfNat,Int.reduceNegSucc,UInt8.reduceOfNat]⟩
noncomputable def f150 : ORes:=(n150 mL (Run Tryz.prog rxA) (Dcall Tryz.prog rxA) (LP Tryz.prog rxA) a0 A).1
noncomputable def n150_0 : Nf (loopB M Tryz.prog rxHint kk call dcall lp 150 [0,0,1,1] [A0] e A):=⟨_,by conv => lhs; reduce; simp only [go_sem,Int.reduceOfNat,Int.reduceNegSucc,UInt8.reduceOfNat]⟩
noncomputable def n131 : Nf (bodyR M Tryz.prog rxHint kk call dcall lp 131 [a0,a1] A):=⟨_,by conv => lhs; reduce; simp only [go_sem,Int.reduceOfNat,Int.reduceNegSucc,UInt8.reduceOfNat]⟩
noncomputable def n68 : Nf (bodyR M Tryz.prog rxHint kk call dcall lp 68 [a0,a1] A):=⟨_,by conv => lhs; reduce; simp only [go_sem,Int.reduceOfNat,Int.reduceNegSucc,UInt8.reduceOfNat]⟩
noncomputable def f68 : ORes:=(n68 mL (Run Tryz.prog rxA) (Dcall Tryz.prog rxA) (LP Tryz.prog rxA) a0 a1 A).1
theorem r68 : Run Tryz.prog rxA 68 [a0,a1] A = f68 a0.canon a1.canon A:=(qbk Tryz.prog rxA kk rfl rfl (okf rfl) _ A).trans (n68 ..).2
noncomputable def n68_0 : Nf (loopB M Tryz.prog rxHint kk call dcall lp 68 [0,1,0,1] [A0] e A):=⟨_,by conv => lhs; reduce; simp only [go_sem,Int.reduceOfNat,Int.reduceNegSucc,UInt8.reduceOfNat]⟩
theorem q68_0 : LP Tryz.prog rxA 68 [0,1,0,1] [A0] e A = (n68_0 mL (Run Tryz.prog rxA) (Dcall Tryz.prog rxA) (LP Tryz.prog rxA) A A0 e).1:=(LP_eq Tryz.prog rxA kk (okf rfl) rfl e A).trans (n68_0 ..).2
noncomputable def n158 : Nf (bodyR M Tryz.prog rxHint kk call dcall lp 158 [a0,a1] A):=⟨_,by conv => lhs; reduce; simp only [go_sem,Int.reduceOfNat,Int.reduceNegSucc,UInt8.reduceOfNat]⟩
noncomputable def n158_0 : Nf (loopB M Tryz.prog rxHint kk call dcall lp 158 [0,1,0,1] [A0] e A):=⟨_,by conv => lhs; reduce; simp only [go_sem,Int.reduceOfNat,Int.reduceNegSucc,UInt8.reduceOfNat]⟩
noncomputable def n123 : Nf (bodyR M Tryz.prog rxHint kk call dcall lp 123 [a0] A):=⟨_,by conv => lhs; reduce; simp only [go_sem,Int.reduceOfNat,Int.reduceNegSucc,UInt8.reduceOfNat]⟩
noncomputable def f123 : ORes:=(n123 mL (Run Tryz.prog rxA) (Dcall Tryz.prog rxA) (LP Tryz.prog rxA) a0 A).1
theorem r123 : Run Tryz.prog rxA 123 [a0] A = f123 a0.canon A:=(qbk Tryz.prog rxA kk rfl rfl (okf rfl) _ A).trans (n123 ..).2
noncomputable def n44 : Nf (bodyR M Tryz.prog rxHint kk call dcall lp 44 [a0] A):=⟨_,by conv => lhs; reduce; simp only [go_sem,Int.reduceOfNat,Int.reduceNegSucc,UInt8.reduceOfNat]⟩
noncomputable def f44 : ORes:=(n44 mL (Run Tryz.prog rxA) (Dcall Tryz.prog rxA) (LP Tryz.prog rxA) a0 A).1
theorem r44 : Run Tryz.prog rxA 44 [a0] A = f44 a0.canon A:=(qbk Tryz.prog rxA kk rfl rfl (okf rfl) _ A).trans (n44 ..).2
noncomputable def n107 : Nf (bodyR M Tryz.prog rxHint kk call dcall lp 107 [a0,a1] A):=⟨_,by conv => lhs; reduce; simp only [go_sem,Int.reduceOfNat,Int.reduceNegSucc,UInt8.reduceOfNat]⟩
noncomputable def f107 : ORes:=(n107 mL (Run Tryz.prog rxA) (Dcall Tryz.prog rxA) (LP Tryz.prog rxA) a0 a1 A).1
theorem r107 : Run Tryz.prog rxA 107 [a0,a1] A = f107 a0.canon a1.canon A:=(qbk Tryz.prog rxA kk rfl rfl (okf rfl) _ A).trans (n107 ..).2
noncomputable def n77 : Nf (bodyR M Tryz.prog rxHint kk call dcall lp 77 [a0] A):=⟨_,by conv => lhs; reduce; simp only [go_sem,Int.reduceOfNat,Int.reduceNegSucc,UInt8.reduceOfNat]⟩
noncomputable def f77 : ORes:=(n77 mL (Run Tryz.prog rxA) (Dcall Tryz.prog rxA) (LP Tryz.prog rxA) a0 A).1
theorem r77 : Run Tryz.prog rxA 77 [a0] A = f77 a0.canon A:=(qbk Tryz.prog rxA kk rfl rfl (okf rfl) _ A).trans (n77 ..).2
noncomputable def n102 : Nf (bodyR M Tryz.prog rxHint kk call dcall lp 102 [a0,a1] A):=⟨_,by conv => lhs; reduce; simp only [go_sem,Int.reduceOfNat,Int.reduceNegSucc,UInt8.reduceOfNat]⟩
noncomputable def n35 : Nf (bodyR M Tryz.prog rxHint kk call dcall lp 35 [a0] A):=⟨_,by conv => lhs; reduce; simp only [go_sem,Int.reduceOfNat,Int.reduceNegSucc,UInt8.reduceOfNat]⟩
noncomputable def f35 : ORes:=(n35 mL (Run Tryz.prog rxA) (Dcall Tryz.prog rxA) (LP Tryz.prog rxA) a0 A).1
theorem r35 : Run Tryz.prog rxA 35 [a0] A = f35 a0.canon A:=(qbk Tryz.prog rxA kk rfl rfl (okf rfl) _ A).trans (n35 ..).2
end Go.Vm.Rx
