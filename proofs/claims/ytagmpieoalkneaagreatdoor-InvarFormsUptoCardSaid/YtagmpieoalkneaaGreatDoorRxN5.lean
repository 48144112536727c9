/- RxN4, RxN5 in one text. -/
import Derived.Test.YtagmpieoalkneaaGreatDoorRxOk
set_option linter.all false
namespace Go.Vm.Rx
open Go.Proofs
set_option maxRecDepth 100000
set_option maxHeartbeats 0
attribute [local irreducible] bn mp ifb D.bool? D.int? D.str? D.agg? D.cell? D.cellsT ofCells guardB layCells eqOf binO unD convO sliceStrO sliceSlO fieldAddrO fieldO indexAddrO indexStrO assertV extractD nilCheckD lenStrO lenSlO minMaxD loadO storeO boxO sliceParts makeO appendO litO tokO deferO bytesConvO panicD applyD Kept leaveD D.shut D.shutL guardP leavesD shV recBusy recSet closeSt endX seqCall seqI exS leaveM cAt cAtI D.canon D.canonL Res.elim allocO sLen sApp sTake gkM gsM gwM clM jn Env.g yldB mapGetO mapPutO mapEntryO entryStoreO mapDelO makeMapR mapLenO keyK eqKS
variable (M:Mode) (call:CallT) (dcall:DcallT) (lp:LpT) (a0 a1 a2 a3 a4:D) (A A0 A1 A2:St) (e:Env)
noncomputable def n125:Nf (bodyR M Tryz.prog rxHint kk call dcall lp 125 [a0,a1,a2] A):=⟨_,by conv=>lhs;reduce;simp only [go_sem,Int.reduceOfNat,Int.reduceNegSucc,UInt8.reduceOfNat]⟩
noncomputable def f125:ORes:=(n125 mL (Run Tryz.prog rxA) (Dcall Tryz.prog rxA) (LP Tryz.prog rxA) a0 a1 a2 A).1
theorem r125:Run Tryz.prog rxA 125 [a0,a1,a2] A=f125 a0.canon a1.canon a2.canon A:=(qbk Tryz.prog rxA kk rfl rfl (okf rfl) _ A).trans (n125 ..).2
noncomputable def n125_0:Nf (loopB M Tryz.prog rxHint kk call dcall lp 125 [0,1,0,1,0,1,1,1,1,1,1,1,0,1,0,1,1,1] [A0] e A):=⟨_,by conv=>lhs;reduce;simp only [go_sem,Int.reduceOfNat,Int.reduceNegSucc,UInt8.reduceOfNat]⟩
theorem q125_0:LP Tryz.prog rxA 125 [0,1,0,1,0,1,1,1,1,1,1,1,0,1,0,1,1,1] [A0] e A=(n125_0 mL (Run Tryz.prog rxA) (Dcall Tryz.prog rxA) (LP Tryz.prog rxA) A A0 e).1:=(LP_eq Tryz.prog rxA kk (okf rfl) rfl e A).trans (n125_0 ..).2
noncomputable def n125_1:Nf (loopB M Tryz.prog rxHint kk call dcall lp 125 [0,1,0,0,1,1,1,1,1,1,1,1,1,0,1,0,1,1,1] [A0] e A):=⟨_,by conv=>lhs;reduce;simp only [go_sem,Int.reduceOfNat,Int.reduceNegSucc,UInt8.reduceOfNat]⟩
theorem q125_1:LP Tryz.prog rxA 125 [0,1,0,0,1,1,1,1,1,1,1,1,1,0,1,0,1,1,1] [A0] e A=(n125_1 mL (Run Tryz.prog rxA) (Dcall Tryz.prog rxA) (LP Tryz.prog rxA) A A0 e).1:=(LP_eq Tryz.prog rxA kk (okf rfl) rfl e A).trans (n125_1 ..).2
noncomputable def n47:Nf (bodyR M Tryz.prog rxHint kk call dcall lp 47 [a0] A):=⟨_,by conv=>lhs;reduce;simp only [go_sem,Int.reduceOfNat,Int.reduceNegSucc,UInt8.reduceOfNat]⟩
noncomputable def f47:ORes:=(n47 mL (Run Tryz.prog rxA) (Dcall Tryz.prog rxA) (LP Tryz.prog rxA) a0 A).1
theorem r47:Run Tryz.prog rxA 47 [a0] A=f47 a0.canon A:=(qbk Tryz.prog rxA kk rfl rfl (okf rfl) _ A).trans (n47 ..).2
noncomputable def n47_0:Nf (loopB M Tryz.prog rxHint kk call dcall lp 47 [0,1,0,1,1] [A0] e A):=⟨_,by conv=>lhs;reduce;simp only [go_sem,Int.reduceOfNat,Int.reduceNegSucc,UInt8.reduceOfNat]⟩
theorem q47_0:LP Tryz.prog rxA 47 [0,1,0,1,1] [A0] e A=(n47_0 mL (Run Tryz.prog rxA) (Dcall Tryz.prog rxA) (LP Tryz.prog rxA) A A0 e).1:=(LP_eq Tryz.prog rxA kk (okf rfl) rfl e A).trans (n47_0 ..).2
noncomputable def n47_1:Nf (loopB M Tryz.prog rxHint kk call dcall lp 47 [0,1,0,1,1,1,1,1,1] [A0] e A):=⟨_,by conv=>lhs;reduce;simp only [go_sem,Int.reduceOfNat,Int.reduceNegSucc,UInt8.reduceOfNat]⟩
theorem q47_1:LP Tryz.prog rxA 47 [0,1,0,1,1,1,1,1,1] [A0] e A=(n47_1 mL (Run Tryz.prog rxA) (Dcall Tryz.prog rxA) (LP Tryz.prog rxA) A A0 e).1:=(LP_eq Tryz.prog rxA kk (okf rfl) rfl e A).trans (n47_1 ..).2
noncomputable def n47_2:Nf (loopB M Tryz.prog rxHint kk call dcall lp 47 [0,1,0,0,1,0,0,1,0,1,1,1,1,1,1] [A1,A0] e A):=⟨_,by conv=>lhs;reduce;simp only [go_sem,Int.reduceOfNat,Int.reduceNegSucc,UInt8.reduceOfNat]⟩
theorem q47_2:LP Tryz.prog rxA 47 [0,1,0,0,1,0,0,1,0,1,1,1,1,1,1] [A1,A0] e A=(n47_2 mL (Run Tryz.prog rxA) (Dcall Tryz.prog rxA) (LP Tryz.prog rxA) A A0 A1 e).1:=(LP_eq Tryz.prog rxA kk (okf rfl) rfl e A).trans (n47_2 ..).2
noncomputable def n52:Nf (bodyR M Tryz.prog rxHint kk call dcall lp 52 [a0] A):=⟨_,by conv=>lhs;reduce;simp only [go_sem,Int.reduceOfNat,Int.reduceNegSucc,UInt8.reduceOfNat]⟩
noncomputable def f52:ORes:=(n52 mL (Run Tryz.prog rxA) (Dcall Tryz.prog rxA) (LP Tryz.prog rxA) a0 A).1
theorem r52:Run Tryz.prog rxA 52 [a0] A=f52 a0.canon A:=(qbk Tryz.prog rxA kk rfl rfl (okf rfl) _ A).trans (n52 ..).2
noncomputable def n52_0:Nf (loopB M Tryz.prog rxHint kk call dcall lp 52 [0,1,0,1,1] [A0] e A):=⟨_,by conv=>lhs;reduce;simp only [go_sem,Int.reduceOfNat,Int.reduceNegSucc,UInt8.reduceOfNat]⟩
theorem q52_0:LP Tryz.prog rxA 52 [0,1,0,1,1] [A0] e A=(n52_0 mL (Run Tryz.prog rxA) (Dcall Tryz.prog rxA) (LP Tryz.prog rxA) A A0 e).1:=(LP_eq Tryz.prog rxA kk (okf rfl) rfl e A).trans (n52_0 ..).2
noncomputable def n8:Nf (bodyR M Tryz.prog rxHint kk call dcall lp 8 [a0] A):=⟨_,by conv=>lhs;reduce;simp only [go_sem,Int.reduceOfNat,Int.reduceNegSucc,UInt8.reduceOfNat]⟩
noncomputable def n8_0:Nf (loopB M Tryz.prog rxHint kk call dcall lp 8 [0,1,0,1,1,1,1] [A0] e A):=⟨_,by conv=>lhs;reduce;simp only [go_sem,Int.reduceOfNat,Int.reduceNegSucc,UInt8.reduceOfNat]⟩
noncomputable def n69:Nf (bodyR M Tryz.prog rxHint kk call dcall lp 69 [a0,a1] A):=⟨_,by conv=>lhs;reduce;simp only [go_sem,Int.reduceOfNat,Int.reduceNegSucc,UInt8.reduceOfNat]⟩
noncomputable def f69:ORes:=(n69 mL (Run Tryz.prog rxA) (Dcall Tryz.prog rxA) (LP Tryz.prog rxA) a0 a1 A).1
theorem r69:Run Tryz.prog rxA 69 [a0,a1] A=f69 a0.canon a1.canon A:=(qbk Tryz.prog rxA kk rfl rfl (okf rfl) _ A).trans (n69 ..).2
noncomputable def n69_0:Nf (loopB M Tryz.prog rxHint kk call dcall lp 69 [0,1,0,1,1] [A0] e A):=⟨_,by conv=>lhs;reduce;simp only [go_sem,Int.reduceOfNat,Int.reduceNegSucc,UInt8.reduceOfNat]⟩
theorem q69_0:LP Tryz.prog rxA 69 [0,1,0,1,1] [A0] e A=(n69_0 mL (Run Tryz.prog rxA) (Dcall Tryz.prog rxA) (LP Tryz.prog rxA) A A0 e).1:=(LP_eq Tryz.prog rxA kk (okf rfl) rfl e A).trans (n69_0 ..).2
noncomputable def n135:Nf (bodyR M Tryz.prog rxHint kk call dcall lp 135 [a0,a1,a2,a3] A):=⟨_,by conv=>lhs;reduce;simp only [go_sem,Int.reduceOfNat,Int.reduceNegSucc,UInt8.reduceOfNat]⟩
noncomputable def f135:ORes:=(n135 mL (Run Tryz.prog rxA) (Dcall Tryz.prog rxA) (LP Tryz.prog rxA) a0 a1 a2 a3 A).1
theorem r135:Run Tryz.prog rxA 135 [a0,a1,a2,a3] A=f135 a0.canon a1.canon a2.canon a3.canon A:=(qbk Tryz.prog rxA kk rfl rfl (okf rfl) _ A).trans (n135 ..).2
noncomputable def n135_0:Nf (loopB M Tryz.prog rxHint kk call dcall lp 135 [0,0,0,1,0] [A0] e A):=⟨_,by conv=>lhs;reduce;simp only [go_sem,Int.reduceOfNat,Int.reduceNegSucc,UInt8.reduceOfNat]⟩
noncomputable def n135_1:Nf (loopB M Tryz.prog rxHint kk call dcall lp 135 [0,0,1] [A0] e A):=⟨_,by conv=>lhs;reduce;simp only [go_sem,Int.reduceOfNat,Int.reduceNegSucc,UInt8.reduceOfNat]⟩
theorem q135_1:LP Tryz.prog rxA 135 [0,0,1] [A0] e A=(n135_1 mL (Run Tryz.prog rxA) (Dcall Tryz.prog rxA) (LP Tryz.prog rxA) A A0 e).1:=(LP_eq Tryz.prog rxA kk (okf rfl) rfl e A).trans (n135_1 ..).2
noncomputable def n45:Nf (bodyR M Tryz.prog rxHint kk call dcall lp 45 [a0] A):=⟨_,by conv=>lhs;reduce;simp only [go_sem,Int.reduceOfNat,Int.reduceNegSucc,UInt8.reduceOfNat]⟩
noncomputable def f45:ORes:=(n45 mL (Run Tryz.prog rxA) (Dcall Tryz.prog rxA) (LP Tryz.prog rxA) a0 A).1
theorem r45:Run Tryz.prog rxA 45 [a0] A=f45 a0.canon A:=(qbk Tryz.prog rxA kk rfl rfl (okf rfl) _ A).trans (n45 ..).2
noncomputable def n45_0:Nf (loopB M Tryz.prog rxHint kk call dcall lp 45 [0,1,0,1,1] [A0] e A):=⟨_,by conv=>lhs;reduce;simp only [go_sem,Int.reduceOfNat,Int.reduceNegSucc,UInt8.reduceOfNat]⟩
theorem q45_0:LP Tryz.prog rxA 45 [0,1,0,1,1] [A0] e A=(n45_0 mL (Run Tryz.prog rxA) (Dcall Tryz.prog rxA) (LP Tryz.prog rxA) A A0 e).1:=(LP_eq Tryz.prog rxA kk (okf rfl) rfl e A).trans (n45_0 ..).2
noncomputable def n173:Nf (bodyR M Tryz.prog rxHint kk call dcall lp 173 [a0] A):=⟨_,by conv=>lhs;reduce;simp only [go_sem,Int.reduceOfNat,Int.reduceNegSucc,UInt8.reduceOfNat]⟩
noncomputable def f173:ORes:=(n173 mL (Run Tryz.prog rxA) (Dcall Tryz.prog rxA) (LP Tryz.prog rxA) a0 A).1
noncomputable def n49:Nf (bodyR M Tryz.prog rxHint kk call dcall lp 49 [a0] A):=⟨_,by conv=>lhs;reduce;simp only [go_sem,Int.reduceOfNat,Int.reduceNegSucc,UInt8.reduceOfNat]⟩
noncomputable def f49:ORes:=(n49 mL (Run Tryz.prog rxA) (Dcall Tryz.prog rxA) (LP Tryz.prog rxA) a0 A).1
theorem r49:Run Tryz.prog rxA 49 [a0] A=f49 a0.canon A:=(qbk Tryz.prog rxA kk rfl rfl (okf rfl) _ A).trans (n49 ..).2
noncomputable def n49_0:Nf (loopB M Tryz.prog rxHint kk call dcall lp 49 [0,1,0,1] [A0] e A):=⟨_,by conv=>lhs;reduce;simp only [go_sem,Int.reduceOfNat,Int.reduceNegSucc,UInt8.reduceOfNat]⟩
theorem q49_0:LP Tryz.prog rxA 49 [0,1,0,1] [A0] e A=(n49_0 mL (Run Tryz.prog rxA) (Dcall Tryz.prog rxA) (LP Tryz.prog rxA) A A0 e).1:=(LP_eq Tryz.prog rxA kk (okf rfl) rfl e A).trans (n49_0 ..).2
noncomputable def n92:Nf (bodyR M Tryz.prog rxHint kk call dcall lp 92 [a0] A):=⟨_,by conv=>lhs;reduce;simp only [go_sem,Int.reduceOfNat,Int.reduceNegSucc,UInt8.reduceOfNat]⟩
noncomputable def f92:ORes:=(n92 mL (Run Tryz.prog rxA) (Dcall Tryz.prog rxA) (LP Tryz.prog rxA) a0 A).1
theorem r92:Run Tryz.prog rxA 92 [a0] A=f92 a0.canon A:=(qbk Tryz.prog rxA kk rfl rfl (okf rfl) _ A).trans (n92 ..).2
noncomputable def n88:Nf (bodyR M Tryz.prog rxHint kk call dcall lp 88 [a0] A):=⟨_,by conv=>lhs;reduce;simp only [go_sem,Int.reduceOfNat,Int.reduceNegSucc,UInt8.reduceOfNat]⟩
noncomputable def f88:ORes:=(n88 mL (Run Tryz.prog rxA) (Dcall Tryz.prog rxA) (LP Tryz.prog rxA) a0 A).1
theorem r88:Run Tryz.prog rxA 88 [a0] A=f88 a0.canon A:=(qbk Tryz.prog rxA kk rfl rfl (okf rfl) _ A).trans (n88 ..).2
noncomputable def n119:Nf (bodyR M Tryz.prog rxHint kk call dcall lp 119 [a0,a1] A):=⟨_,by conv=>lhs;reduce;simp only [go_sem,Int.reduceOfNat,Int.reduceNegSucc,UInt8.reduceOfNat]⟩
noncomputable def f119:ORes:=(n119 mL (Run Tryz.prog rxA) (Dcall Tryz.prog rxA) (LP Tryz.prog rxA) a0 a1 A).1
theorem r119:Run Tryz.prog rxA 119 [a0,a1] A=f119 a0.canon a1.canon A:=(qbk Tryz.prog rxA kk rfl rfl (okf rfl) _ A).trans (n119 ..).2
noncomputable def n119_0:Nf (loopB M Tryz.prog rxHint kk call dcall lp 119 [0,1,0,1,1] [A0] e A):=⟨_,by conv=>lhs;reduce;simp only [go_sem,Int.reduceOfNat,Int.reduceNegSucc,UInt8.reduceOfNat]⟩
theorem q119_0:LP Tryz.prog rxA 119 [0,1,0,1,1] [A0] e A=(n119_0 mL (Run Tryz.prog rxA) (Dcall Tryz.prog rxA) (LP Tryz.prog rxA) A A0 e).1:=(LP_eq Tryz.prog rxA kk (okf rfl) rfl e A).trans (n119_0 ..).2
noncomputable def n81:Nf (bodyR M Tryz.prog rxHint kk call dcall lp 81 [a0,a1] A):=⟨_,by conv=>lhs;reduce;simp only [go_sem,Int.reduceOfNat,Int.reduceNegSucc,UInt8.reduceOfNat]⟩
noncomputable def f81:ORes:=(n81 mL (Run Tryz.prog rxA) (Dcall Tryz.prog rxA) (LP Tryz.prog rxA) a0 a1 A).1
theorem r81:Run Tryz.prog rxA 81 [a0,a1] A=f81 a0.canon a1.canon A:=(qbk Tryz.prog rxA kk rfl rfl (okf rfl) _ A).trans (n81 ..).2
noncomputable def n81_0:Nf (loopB M Tryz.prog rxHint kk call dcall lp 81 [0,1,0,1,1] [A0] e A):=⟨_,by conv=>lhs;reduce;simp only [go_sem,Int.reduceOfNat,Int.reduceNegSucc,UInt8.reduceOfNat]⟩
theorem q81_0:LP Tryz.prog rxA 81 [0,1,0,1,1] [A0] e A=(n81_0 mL (Run Tryz.prog rxA) (Dcall Tryz.prog rxA) (LP Tryz.prog rxA) A A0 e).1:=(LP_eq Tryz.prog rxA kk (okf rfl) rfl e A).trans (n81_0 ..).2
noncomputable def n95:Nf (bodyR M Tryz.prog rxHint kk call dcall lp 95 [a0,a1] A):=⟨_,by conv=>lhs;reduce;simp only [go_sem,Int.reduceOfNat,Int.reduceNegSucc,UInt8.reduceOfNat]⟩
noncomputable def f95:ORes:=(n95 mL (Run Tryz.prog rxA) (Dcall Tryz.prog rxA) (LP Tryz.prog rxA) a0 a1 A).1
theorem r95:Run Tryz.prog rxA 95 [a0,a1] A=f95 a0.canon a1.canon A:=(qbk Tryz.prog rxA kk rfl rfl (okf rfl) _ A).trans (n95 ..).2
noncomputable def n95_0:Nf (loopB M Tryz.prog rxHint kk call dcall lp 95 [0,1,0,1,1] [A0] e A):=⟨_,by conv=>lhs;reduce;simp only [go_sem,Int.reduceOfNat,Int.reduceNegSucc,UInt8.reduceOfNat]⟩
theorem q95_0:LP Tryz.prog rxA 95 [0,1,0,1,1] [A0] e A=(n95_0 mL (Run Tryz.prog rxA) (Dcall Tryz.prog rxA) (LP Tryz.prog rxA) A A0 e).1:=(LP_eq Tryz.prog rxA kk (okf rfl) rfl e A).trans (n95_0 ..).2
noncomputable def n79:Nf (bodyR M Tryz.prog rxHint kk call dcall lp 79 [a0] A):=⟨_,by conv=>lhs;reduce;simp only [go_sem,Int.reduceOfNat,Int.reduceNegSucc,UInt8.reduceOfNat]⟩
noncomputable def n153:Nf (bodyR M Tryz.prog rxHint kk call dcall lp 153 [a0,a1] A):=⟨_,by conv=>lhs;reduce;simp only [go_sem,Int.reduceOfNat,Int.reduceNegSucc,UInt8.reduceOfNat]⟩
noncomputable def f153:ORes:=(n153 mL (Run Tryz.prog rxA) (Dcall Tryz.prog rxA) (LP Tryz.prog rxA) a0 a1 A).1
theorem r153:Run Tryz.prog rxA 153 [a0,a1] A=f153 a0.canon a1.canon A:=(qbk Tryz.prog rxA kk rfl rfl (okf rfl) _ A).trans (n153 ..).2
noncomputable def n153_0:Nf (loopB M Tryz.prog rxHint kk call dcall lp 153 [0,1,0,1] [A0] e A):=⟨_,by conv=>lhs;reduce;simp only [go_sem,Int.reduceOfNat,Int.reduceNegSucc,UInt8.reduceOfNat]⟩
theorem q153_0:LP Tryz.prog rxA 153 [0,1,0,1] [A0] e A=(n153_0 mL (Run Tryz.prog rxA) (Dcall Tryz.prog rxA) (LP Tryz.prog rxA) A A0 e).1:=(LP_eq Tryz.prog rxA kk (okf rfl) rfl e A).trans (n153_0 ..).2
noncomputable def n51:Nf (bodyR M Tryz.prog rxHint kk call dcall lp 51 [a0] A):=⟨_,by conv=>lhs;reduce;simp only [go_sem,Int.reduceOfNat,Int.reduceNegSucc,UInt8.reduceOfNat]⟩
noncomputable def f51:ORes:=(n51 mL (Run Tryz.prog rxA) (Dcall Tryz.prog rxA) (LP Tryz.prog rxA) a0 A).1
theorem r51:Run Tryz.prog rxA 51 [a0] A=f51 a0.canon A:=(qbk Tryz.prog rxA kk rfl rfl (okf rfl) _ A).trans (n51 ..).2
noncomputable def n36:Nf (bodyR M Tryz.prog rxHint kk call dcall lp 36 [a0,a1,a2] A):=⟨_,by conv=>lhs;reduce;simp only [go_sem,Int.reduceOfNat,Int.reduceNegSucc,UInt8.reduceOfNat]⟩
noncomputable def f36:ORes:=(n36 mL (Run Tryz.prog rxA) (Dcall Tryz.prog rxA) (LP Tryz.prog rxA) a0 a1 a2 A).1
theorem r36:Run Tryz.prog rxA 36 [a0,a1,a2] A=f36 a0.canon a1.canon a2.canon A:=(qbk Tryz.prog rxA kk rfl rfl (okf rfl) _ A).trans (n36 ..).2
noncomputable def n28:Nf (bodyR M Tryz.prog rxHint kk call dcall lp 28 [a0,a1] A):=⟨_,by conv=>lhs;reduce;simp only [go_sem,Int.reduceOfNat,Int.reduceNegSucc,UInt8.reduceOfNat]⟩
noncomputable def n33:Nf (bodyR M Tryz.prog rxHint kk call dcall lp 33 [a0,a1] A):=⟨_,by conv=>lhs;reduce;simp only [go_sem,Int.reduceOfNat,Int.reduceNegSucc,UInt8.reduceOfNat]⟩
noncomputable def f33:ORes:=(n33 mL (Run Tryz.prog rxA) (Dcall Tryz.prog rxA) (LP Tryz.prog rxA) a0 a1 A).1
noncomputable def n60:Nf (bodyR M Tryz.prog rxHint kk call dcall lp 60 [a0,a1] A):=⟨_,by conv=>lhs;reduce;simp only [go_sem,Int.reduceOfNat,Int.reduceNegSucc,UInt8.reduceOfNat]⟩
noncomputable def f60:ORes:=(n60 mL (Run Tryz.prog rxA) (Dcall Tryz.prog rxA) (LP Tryz.prog rxA) a0 a1 A).1
theorem r60:Run Tryz.prog rxA 60 [a0,a1] A=f60 a0.canon a1.canon A:=(qbk Tryz.prog rxA kk rfl rfl (okf rfl) _ A).trans (n60 ..).2
noncomputable def n167:Nf (bodyR M Tryz.prog rxHint kk call dcall lp 167 [a0,a1] A):=⟨_,by conv=>lhs;reduce;simp only [go_sem,Int.reduceOfNat,Int.reduceNegSucc,UInt8.reduceOfNat]⟩
noncomputable def f167:ORes:=(n167 mL (Run Tryz.prog rxA) (Dcall Tryz.prog rxA) (LP Tryz.prog rxA) a0 a1 A).1
theorem r167:Run Tryz.prog rxA 167 [a0,a1] A=f167 a0.canon a1.canon A:=(qbk Tryz.prog rxA kk rfl rfl (okf rfl) _ A).trans (n167 ..).2
end Go.Vm.Rx

namespace Go.Vm.Rx
open Go.Proofs
set_option maxRecDepth 100000
set_option maxHeartbeats 0
attribute [local irreducible] bn mp ifb D.bool? D.int? D.str? D.agg? D.cell? D.cellsT ofCells guardB layCells eqOf binO unD convO sliceStrO sliceSlO fieldAddrO fieldO indexAddrO indexStrO assertV extractD nilCheckD lenStrO lenSlO minMaxD loadO storeO boxO sliceParts makeO appendO litO tokO deferO bytesConvO panicD applyD Kept leaveD D.shut D.shutL guardP leavesD shV recBusy recSet closeSt endX seqCall seqI exS leaveM cAt cAtI D.canon D.canonL Res.elim allocO sLen sApp sTake gkM gsM gwM clM jn Env.g yldB mapGetO mapPutO mapEntryO entryStoreO mapDelO makeMapR mapLenO keyK eqKS
variable (M:Mode) (call:CallT) (dcall:DcallT) (lp:LpT) (a0 a1 a2 a3 a4:D) (A A0 A1 A2:St) (e:Env)
noncomputable def n104:Nf (bodyR M Tryz.prog rxHint kk call dcall lp 104 [a0,a1] A):=⟨_,by conv=>lhs;reduce;simp only [go_sem,Int.reduceOfNat,Int.reduceNegSucc,UInt8.reduceOfNat]⟩
noncomputable def f104:ORes:=(n104 mL (Run Tryz.prog rxA) (Dcall Tryz.prog rxA) (LP Tryz.prog rxA) a0 a1 A).1
theorem r104:Run Tryz.prog rxA 104 [a0,a1] A=f104 a0.canon a1.canon A:=(qbk Tryz.prog rxA kk rfl rfl (okf rfl) _ A).trans (n104 ..).2
noncomputable def n104_0:Nf (loopB M Tryz.prog rxHint kk call dcall lp 104 [0,1,0,1,1,1,1] [A0] e A):=⟨_,by conv=>lhs;reduce;simp only [go_sem,Int.reduceOfNat,Int.reduceNegSucc,UInt8.reduceOfNat]⟩
theorem q104_0:LP Tryz.prog rxA 104 [0,1,0,1,1,1,1] [A0] e A=(n104_0 mL (Run Tryz.prog rxA) (Dcall Tryz.prog rxA) (LP Tryz.prog rxA) A A0 e).1:=(LP_eq Tryz.prog rxA kk (okf rfl) rfl e A).trans (n104_0 ..).2
noncomputable def n86:Nf (bodyR M Tryz.prog rxHint kk call dcall lp 86 [a0,a1] A):=⟨_,by conv=>lhs;reduce;simp only [go_sem,Int.reduceOfNat,Int.reduceNegSucc,UInt8.reduceOfNat]⟩
noncomputable def f86:ORes:=(n86 mL (Run Tryz.prog rxA) (Dcall Tryz.prog rxA) (LP Tryz.prog rxA) a0 a1 A).1
theorem r86:Run Tryz.prog rxA 86 [a0,a1] A=f86 a0.canon a1.canon A:=(qbk Tryz.prog rxA kk rfl rfl (okf rfl) _ A).trans (n86 ..).2
noncomputable def n86_0:Nf (loopB M Tryz.prog rxHint kk call dcall lp 86 [0,1,0,0,1,1,1,1,1,1,1,0,1,0,1,1,1] [A0] e A):=⟨_,by conv=>lhs;reduce;simp only [go_sem,Int.reduceOfNat,Int.reduceNegSucc,UInt8.reduceOfNat]⟩
theorem q86_0:LP Tryz.prog rxA 86 [0,1,0,0,1,1,1,1,1,1,1,0,1,0,1,1,1] [A0] e A=(n86_0 mL (Run Tryz.prog rxA) (Dcall Tryz.prog rxA) (LP Tryz.prog rxA) A A0 e).1:=(LP_eq Tryz.prog rxA kk (okf rfl) rfl e A).trans (n86_0 ..).2
noncomputable def n86_1:Nf (loopB M Tryz.prog rxHint kk call dcall lp 86 [0,1,0,1,0,1,1,1,1,1,1,1,1,1,0,1,0,1,1,1] [A0] e A):=⟨_,by conv=>lhs;reduce;simp only [go_sem,Int.reduceOfNat,Int.reduceNegSucc,UInt8.reduceOfNat]⟩
theorem q86_1:LP Tryz.prog rxA 86 [0,1,0,1,0,1,1,1,1,1,1,1,1,1,0,1,0,1,1,1] [A0] e A=(n86_1 mL (Run Tryz.prog rxA) (Dcall Tryz.prog rxA) (LP Tryz.prog rxA) A A0 e).1:=(LP_eq Tryz.prog rxA kk (okf rfl) rfl e A).trans (n86_1 ..).2
noncomputable def n14:Nf (bodyR M Tryz.prog rxHint kk call dcall lp 14 [a0] A):=⟨_,by conv=>lhs;reduce;simp only [go_sem,Int.reduceOfNat,Int.reduceNegSucc,UInt8.reduceOfNat]⟩
noncomputable def f14:ORes:=(n14 mL (Run Tryz.prog rxA) (Dcall Tryz.prog rxA) (LP Tryz.prog rxA) a0 A).1
theorem r14:Run Tryz.prog rxA 14 [a0] A=f14 a0.canon A:=(qbk Tryz.prog rxA kk rfl rfl (okf rfl) _ A).trans (n14 ..).2
noncomputable def n14_0:Nf (loopB M Tryz.prog rxHint kk call dcall lp 14 [0,1,0,1,1] [A0] e A):=⟨_,by conv=>lhs;reduce;simp only [go_sem,Int.reduceOfNat,Int.reduceNegSucc,UInt8.reduceOfNat]⟩
theorem q14_0:LP Tryz.prog rxA 14 [0,1,0,1,1] [A0] e A=(n14_0 mL (Run Tryz.prog rxA) (Dcall Tryz.prog rxA) (LP Tryz.prog rxA) A A0 e).1:=(LP_eq Tryz.prog rxA kk (okf rfl) rfl e A).trans (n14_0 ..).2
noncomputable def n94:Nf (bodyR M Tryz.prog rxHint kk call dcall lp 94 [a0,a1,a2] A):=⟨_,by conv=>lhs;reduce;simp only [go_sem,Int.reduceOfNat,Int.reduceNegSucc,UInt8.reduceOfNat]⟩
noncomputable def f94:ORes:=(n94 mL (Run Tryz.prog rxA) (Dcall Tryz.prog rxA) (LP Tryz.prog rxA) a0 a1 a2 A).1
theorem r94:Run Tryz.prog rxA 94 [a0,a1,a2] A=f94 a0.canon a1.canon a2.canon A:=(qbk Tryz.prog rxA kk rfl rfl (okf rfl) _ A).trans (n94 ..).2
noncomputable def n94_0:Nf (loopB M Tryz.prog rxHint kk call dcall lp 94 [0,1,0,1,1,1] [A0] e A):=⟨_,by conv=>lhs;reduce;simp only [go_sem,Int.reduceOfNat,Int.reduceNegSucc,UInt8.reduceOfNat]⟩
theorem q94_0:LP Tryz.prog rxA 94 [0,1,0,1,1,1] [A0] e A=(n94_0 mL (Run Tryz.prog rxA) (Dcall Tryz.prog rxA) (LP Tryz.prog rxA) A A0 e).1:=(LP_eq Tryz.prog rxA kk (okf rfl) rfl e A).trans (n94_0 ..).2
noncomputable def n4:Nf (bodyR M Tryz.prog rxHint kk call dcall lp 4 [a0] A):=⟨_,by conv=>lhs;reduce;simp only [go_sem,Int.reduceOfNat,Int.reduceNegSucc,UInt8.reduceOfNat]⟩
noncomputable def f4:ORes:=(n4 mL (Run Tryz.prog rxA) (Dcall Tryz.prog rxA) (LP Tryz.prog rxA) a0 A).1
noncomputable def n46:Nf (bodyR M Tryz.prog rxHint kk call dcall lp 46 [a0] A):=⟨_,by conv=>lhs;reduce;simp only [go_sem,Int.reduceOfNat,Int.reduceNegSucc,UInt8.reduceOfNat]⟩
noncomputable def f46:ORes:=(n46 mL (Run Tryz.prog rxA) (Dcall Tryz.prog rxA) (LP Tryz.prog rxA) a0 A).1
theorem r46:Run Tryz.prog rxA 46 [a0] A=f46 a0.canon A:=(qbk Tryz.prog rxA kk rfl rfl (okf rfl) _ A).trans (n46 ..).2
noncomputable def n46_0:Nf (loopB M Tryz.prog rxHint kk call dcall lp 46 [0,1,0,1] [A0] e A):=⟨_,by conv=>lhs;reduce;simp only [go_sem,Int.reduceOfNat,Int.reduceNegSucc,UInt8.reduceOfNat]⟩
theorem q46_0:LP Tryz.prog rxA 46 [0,1,0,1] [A0] e A=(n46_0 mL (Run Tryz.prog rxA) (Dcall Tryz.prog rxA) (LP Tryz.prog rxA) A A0 e).1:=(LP_eq Tryz.prog rxA kk (okf rfl) rfl e A).trans (n46_0 ..).2
noncomputable def n46_1:Nf (loopB M Tryz.prog rxHint kk call dcall lp 46 [0,1,0,1,1,1] [A0] e A):=⟨_,by conv=>lhs;reduce;simp only [go_sem,Int.reduceOfNat,Int.reduceNegSucc,UInt8.reduceOfNat]⟩
theorem q46_1:LP Tryz.prog rxA 46 [0,1,0,1,1,1] [A0] e A=(n46_1 mL (Run Tryz.prog rxA) (Dcall Tryz.prog rxA) (LP Tryz.prog rxA) A A0 e).1:=(LP_eq Tryz.prog rxA kk (okf rfl) rfl e A).trans (n46_1 ..).2
noncomputable def n145:Nf (bodyR M Tryz.prog rxHint kk call dcall lp 145 [a0] A):=⟨_,by conv=>lhs;reduce;simp only [go_sem,Int.reduceOfNat,Int.reduceNegSucc,UInt8.reduceOfNat]⟩
noncomputable def f145:ORes:=(n145 mL (Run Tryz.prog rxA) (Dcall Tryz.prog rxA) (LP Tryz.prog rxA) a0 A).1
noncomputable def n145_0:Nf (loopB M Tryz.prog rxHint kk call dcall lp 145 [0,1,0,1,1] [A0] e A):=⟨_,by conv=>lhs;reduce;simp only [go_sem,Int.reduceOfNat,Int.reduceNegSucc,UInt8.reduceOfNat]⟩
noncomputable def n103:Nf (bodyR M Tryz.prog rxHint kk call dcall lp 103 [a0,a1] A):=⟨_,by conv=>lhs;reduce;simp only [go_sem,Int.reduceOfNat,Int.reduceNegSucc,UInt8.reduceOfNat]⟩
noncomputable def f103:ORes:=(n103 mL (Run Tryz.prog rxA) (Dcall Tryz.prog rxA) (LP Tryz.prog rxA) a0 a1 A).1
theorem r103:Run Tryz.prog rxA 103 [a0,a1] A=f103 a0.canon a1.canon A:=(qbk Tryz.prog rxA kk rfl rfl (okf rfl) _ A).trans (n103 ..).2
noncomputable def n103_0:Nf (loopB M Tryz.prog rxHint kk call dcall lp 103 [0,1,0,1] [A0] e A):=⟨_,by conv=>lhs;reduce;simp only [go_sem,Int.reduceOfNat,Int.reduceNegSucc,UInt8.reduceOfNat]⟩
theorem q103_0:LP Tryz.prog rxA 103 [0,1,0,1] [A0] e A=(n103_0 mL (Run Tryz.prog rxA) (Dcall Tryz.prog rxA) (LP Tryz.prog rxA) A A0 e).1:=(LP_eq Tryz.prog rxA kk (okf rfl) rfl e A).trans (n103_0 ..).2
noncomputable def n67:Nf (bodyR M Tryz.prog rxHint kk call dcall lp 67 [a0] A):=⟨_,by conv=>lhs;reduce;simp only [go_sem,Int.reduceOfNat,Int.reduceNegSucc,UInt8.reduceOfNat]⟩
noncomputable def n34:Nf (bodyR M Tryz.prog rxHint kk call dcall lp 34 [a0] A):=⟨_,by conv=>lhs;reduce;simp only [go_sem,Int.reduceOfNat,Int.reduceNegSucc,UInt8.reduceOfNat]⟩
noncomputable def f34:ORes:=(n34 mL (Run Tryz.prog rxA) (Dcall Tryz.prog rxA) (LP Tryz.prog rxA) a0 A).1
theorem r34:Run Tryz.prog rxA 34 [a0] A=f34 a0.canon A:=(qbk Tryz.prog rxA kk rfl rfl (okf rfl) _ A).trans (n34 ..).2
noncomputable def n34_0:Nf (loopB M Tryz.prog rxHint kk call dcall lp 34 [0,1,0,1,1] [A0] e A):=⟨_,by conv=>lhs;reduce;simp only [go_sem,Int.reduceOfNat,Int.reduceNegSucc,UInt8.reduceOfNat]⟩
theorem q34_0:LP Tryz.prog rxA 34 [0,1,0,1,1] [A0] e A=(n34_0 mL (Run Tryz.prog rxA) (Dcall Tryz.prog rxA) (LP Tryz.prog rxA) A A0 e).1:=(LP_eq Tryz.prog rxA kk (okf rfl) rfl e A).trans (n34_0 ..).2
noncomputable def n133:Nf (bodyR M Tryz.prog rxHint kk call dcall lp 133 [a0,a1,a2] A):=⟨_,by conv=>lhs;reduce;simp only [go_sem,Int.reduceOfNat,Int.reduceNegSucc,UInt8.reduceOfNat]⟩
noncomputable def f133:ORes:=(n133 mL (Run Tryz.prog rxA) (Dcall Tryz.prog rxA) (LP Tryz.prog rxA) a0 a1 a2 A).1
theorem r133:Run Tryz.prog rxA 133 [a0,a1,a2] A=f133 a0.canon a1.canon a2.canon A:=(qbk Tryz.prog rxA kk rfl rfl (okf rfl) _ A).trans (n133 ..).2
noncomputable def n146:Nf (bodyR M Tryz.prog rxHint kk call dcall lp 146 [a0,a1] A):=⟨_,by conv=>lhs;reduce;simp only [go_sem,Int.reduceOfNat,Int.reduceNegSucc,UInt8.reduceOfNat]⟩
noncomputable def n96:Nf (bodyR M Tryz.prog rxHint kk call dcall lp 96 [a0] A):=⟨_,by conv=>lhs;reduce;simp only [go_sem,Int.reduceOfNat,Int.reduceNegSucc,UInt8.reduceOfNat]⟩
noncomputable def f96:ORes:=(n96 mL (Run Tryz.prog rxA) (Dcall Tryz.prog rxA) (LP Tryz.prog rxA) a0 A).1
theorem r96:Run Tryz.prog rxA 96 [a0] A=f96 a0.canon A:=(qbk Tryz.prog rxA kk rfl rfl (okf rfl) _ A).trans (n96 ..).2
noncomputable def n96_0:Nf (loopB M Tryz.prog rxHint kk call dcall lp 96 [0,1,0,1,1] [A0] e A):=⟨_,by conv=>lhs;reduce;simp only [go_sem,Int.reduceOfNat,Int.reduceNegSucc,UInt8.reduceOfNat]⟩
theorem q96_0:LP Tryz.prog rxA 96 [0,1,0,1,1] [A0] e A=(n96_0 mL (Run Tryz.prog rxA) (Dcall Tryz.prog rxA) (LP Tryz.prog rxA) A A0 e).1:=(LP_eq Tryz.prog rxA kk (okf rfl) rfl e A).trans (n96_0 ..).2
noncomputable def n150:Nf (bodyR M Tryz.prog rxHint kk call dcall lp 150 [a0] A):=⟨_,by conv=>lhs;reduce;simp only [go_sem,Int.reduceOfNat,Int.reduceNegSucc,UInt8.reduceOfNat]⟩
noncomputable def f150:ORes:=(n150 mL (Run Tryz.prog rxA) (Dcall Tryz.prog rxA) (LP Tryz.prog rxA) a0 A).1
noncomputable def n131:Nf (bodyR M Tryz.prog rxHint kk call dcall lp 131 [a0,a1] A):=⟨_,by conv=>lhs;reduce;simp only [go_sem,Int.reduceOfNat,Int.reduceNegSucc,UInt8.reduceOfNat]⟩
noncomputable def f131:ORes:=(n131 mL (Run Tryz.prog rxA) (Dcall Tryz.prog rxA) (LP Tryz.prog rxA) a0 a1 A).1
theorem r131:Run Tryz.prog rxA 131 [a0,a1] A=f131 a0.canon a1.canon A:=(qbk Tryz.prog rxA kk rfl rfl (okf rfl) _ A).trans (n131 ..).2
noncomputable def n68:Nf (bodyR M Tryz.prog rxHint kk call dcall lp 68 [a0,a1] A):=⟨_,by conv=>lhs;reduce;simp only [go_sem,Int.reduceOfNat,Int.reduceNegSucc,UInt8.reduceOfNat]⟩
noncomputable def n68_0:Nf (loopB M Tryz.prog rxHint kk call dcall lp 68 [0,1,0,1] [A0] e A):=⟨_,by conv=>lhs;reduce;simp only [go_sem,Int.reduceOfNat,Int.reduceNegSucc,UInt8.reduceOfNat]⟩
noncomputable def n158:Nf (bodyR M Tryz.prog rxHint kk call dcall lp 158 [a0,a1] A):=⟨_,by conv=>lhs;reduce;simp only [go_sem,Int.reduceOfNat,Int.reduceNegSucc,UInt8.reduceOfNat]⟩
noncomputable def f158:ORes:=(n158 mL (Run Tryz.prog rxA) (Dcall Tryz.prog rxA) (LP Tryz.prog rxA) a0 a1 A).1
theorem r158:Run Tryz.prog rxA 158 [a0,a1] A=f158 a0.canon a1.canon A:=(qbk Tryz.prog rxA kk rfl rfl (okf rfl) _ A).trans (n158 ..).2
noncomputable def n158_0:Nf (loopB M Tryz.prog rxHint kk call dcall lp 158 [0,1,0,1] [A0] e A):=⟨_,by conv=>lhs;reduce;simp only [go_sem,Int.reduceOfNat,Int.reduceNegSucc,UInt8.reduceOfNat]⟩
theorem q158_0:LP Tryz.prog rxA 158 [0,1,0,1] [A0] e A=(n158_0 mL (Run Tryz.prog rxA) (Dcall Tryz.prog rxA) (LP Tryz.prog rxA) A A0 e).1:=(LP_eq Tryz.prog rxA kk (okf rfl) rfl e A).trans (n158_0 ..).2
noncomputable def n123:Nf (bodyR M Tryz.prog rxHint kk call dcall lp 123 [a0] A):=⟨_,by conv=>lhs;reduce;simp only [go_sem,Int.reduceOfNat,Int.reduceNegSucc,UInt8.reduceOfNat]⟩
noncomputable def f123:ORes:=(n123 mL (Run Tryz.prog rxA) (Dcall Tryz.prog rxA) (LP Tryz.prog rxA) a0 A).1
theorem r123:Run Tryz.prog rxA 123 [a0] A=f123 a0.canon A:=(qbk Tryz.prog rxA kk rfl rfl (okf rfl) _ A).trans (n123 ..).2
noncomputable def n44:Nf (bodyR M Tryz.prog rxHint kk call dcall lp 44 [a0] A):=⟨_,by conv=>lhs;reduce;simp only [go_sem,Int.reduceOfNat,Int.reduceNegSucc,UInt8.reduceOfNat]⟩
noncomputable def f44:ORes:=(n44 mL (Run Tryz.prog rxA) (Dcall Tryz.prog rxA) (LP Tryz.prog rxA) a0 A).1
theorem r44:Run Tryz.prog rxA 44 [a0] A=f44 a0.canon A:=(qbk Tryz.prog rxA kk rfl rfl (okf rfl) _ A).trans (n44 ..).2
noncomputable def n107:Nf (bodyR M Tryz.prog rxHint kk call dcall lp 107 [a0,a1] A):=⟨_,by conv=>lhs;reduce;simp only [go_sem,Int.reduceOfNat,Int.reduceNegSucc,UInt8.reduceOfNat]⟩
noncomputable def f107:ORes:=(n107 mL (Run Tryz.prog rxA) (Dcall Tryz.prog rxA) (LP Tryz.prog rxA) a0 a1 A).1
theorem r107:Run Tryz.prog rxA 107 [a0,a1] A=f107 a0.canon a1.canon A:=(qbk Tryz.prog rxA kk rfl rfl (okf rfl) _ A).trans (n107 ..).2
noncomputable def n77:Nf (bodyR M Tryz.prog rxHint kk call dcall lp 77 [a0] A):=⟨_,by conv=>lhs;reduce;simp only [go_sem,Int.reduceOfNat,Int.reduceNegSucc,UInt8.reduceOfNat]⟩
noncomputable def f77:ORes:=(n77 mL (Run Tryz.prog rxA) (Dcall Tryz.prog rxA) (LP Tryz.prog rxA) a0 A).1
theorem r77:Run Tryz.prog rxA 77 [a0] A=f77 a0.canon A:=(qbk Tryz.prog rxA kk rfl rfl (okf rfl) _ A).trans (n77 ..).2
noncomputable def n102:Nf (bodyR M Tryz.prog rxHint kk call dcall lp 102 [a0,a1] A):=⟨_,by conv=>lhs;reduce;simp only [go_sem,Int.reduceOfNat,Int.reduceNegSucc,UInt8.reduceOfNat]⟩
noncomputable def f102:ORes:=(n102 mL (Run Tryz.prog rxA) (Dcall Tryz.prog rxA) (LP Tryz.prog rxA) a0 a1 A).1
theorem r102:Run Tryz.prog rxA 102 [a0,a1] A=f102 a0.canon a1.canon A:=(qbk Tryz.prog rxA kk rfl rfl (okf rfl) _ A).trans (n102 ..).2
noncomputable def n35:Nf (bodyR M Tryz.prog rxHint kk call dcall lp 35 [a0] A):=⟨_,by conv=>lhs;reduce;simp only [go_sem,Int.reduceOfNat,Int.reduceNegSucc,UInt8.reduceOfNat]⟩
noncomputable def f35:ORes:=(n35 mL (Run Tryz.prog rxA) (Dcall Tryz.prog rxA) (LP Tryz.prog rxA) a0 A).1
theorem r35:Run Tryz.prog rxA 35 [a0] A=f35 a0.canon A:=(qbk Tryz.prog rxA kk rfl rfl (okf rfl) _ A).trans (n35 ..).2
end Go.Vm.Rx
