/- RxN0, RxN1 in one text. -/
import Derived.Test.YtagmpieoalkneaaGreatDoorRxOk
set_option linter.all false
namespace Go.Vm.Rx
open Go.Proofs
set_option maxRecDepth 100000
set_option maxHeartbeats 0
attribute [local irreducible] bn mp ifb D.bool? D.int? D.str? D.agg? D.cell? D.cellsT ofCells guardB layCells eqOf binO unD convO sliceStrO sliceSlO fieldAddrO fieldO indexAddrO indexStrO assertV extractD nilCheckD lenStrO lenSlO minMaxD loadO storeO boxO sliceParts makeO appendO litO tokO deferO bytesConvO panicD applyD Kept leaveD D.shut D.shutL guardP leavesD shV recBusy recSet closeSt endX seqCall seqI exS leaveM cAt cAtI D.canon D.canonL Res.elim allocO sLen sApp sTake gkM gsM gwM clM jn Env.g yldB mapGetO mapPutO mapEntryO entryStoreO mapDelO makeMapR mapLenO keyK eqKS
variable (M:Mode) (call:CallT) (dcall:DcallT) (lp:LpT) (a0 a1 a2 a3 a4:D) (A A0 A1 A2:St) (e:Env)
noncomputable def n30:Nf (bodyR M Tryz.prog rxHint kk call dcall lp 30 [a0] A):=⟨_,by conv=>lhs;reduce;simp only [go_sem,Int.reduceOfNat,Int.reduceNegSucc,UInt8.reduceOfNat]⟩
noncomputable def f30:ORes:=(n30 mL (Run Tryz.prog rxA) (Dcall Tryz.prog rxA) (LP Tryz.prog rxA) a0 A).1
noncomputable def n98:Nf (bodyR M Tryz.prog rxHint kk call dcall lp 98 [a0] A):=⟨_,by conv=>lhs;reduce;simp only [go_sem,Int.reduceOfNat,Int.reduceNegSucc,UInt8.reduceOfNat]⟩
noncomputable def f98:ORes:=(n98 mL (Run Tryz.prog rxA) (Dcall Tryz.prog rxA) (LP Tryz.prog rxA) a0 A).1
theorem r98:Run Tryz.prog rxA 98 [a0] A=f98 a0.canon A:=(qbk Tryz.prog rxA kk rfl rfl (okf rfl) _ A).trans (n98 ..).2
noncomputable def n98_0:Nf (loopB M Tryz.prog rxHint kk call dcall lp 98 [0,1,0,1,1] [A0] e A):=⟨_,by conv=>lhs;reduce;simp only [go_sem,Int.reduceOfNat,Int.reduceNegSucc,UInt8.reduceOfNat]⟩
theorem q98_0:LP Tryz.prog rxA 98 [0,1,0,1,1] [A0] e A=(n98_0 mL (Run Tryz.prog rxA) (Dcall Tryz.prog rxA) (LP Tryz.prog rxA) A A0 e).1:=(LP_eq Tryz.prog rxA kk (okf rfl) rfl e A).trans (n98_0 ..).2
noncomputable def n98_1:Nf (loopB M Tryz.prog rxHint kk call dcall lp 98 [0,1,1,1,0,0,1,1,0,0,1,0,1,1] [A1,A0] e A):=⟨_,by conv=>lhs;reduce;simp only [go_sem,Int.reduceOfNat,Int.reduceNegSucc,UInt8.reduceOfNat]⟩
theorem q98_1:LP Tryz.prog rxA 98 [0,1,1,1,0,0,1,1,0,0,1,0,1,1] [A1,A0] e A=(n98_1 mL (Run Tryz.prog rxA) (Dcall Tryz.prog rxA) (LP Tryz.prog rxA) A A0 A1 e).1:=(LP_eq Tryz.prog rxA kk (okf rfl) rfl e A).trans (n98_1 ..).2
noncomputable def n195:Nf (bodyR M Tryz.prog rxHint kk call dcall lp 195 [a0] A):=⟨_,by conv=>lhs;reduce;simp only [go_sem,Int.reduceOfNat,Int.reduceNegSucc,UInt8.reduceOfNat]⟩
noncomputable def f195:ORes:=(n195 mL (Run Tryz.prog rxA) (Dcall Tryz.prog rxA) (LP Tryz.prog rxA) a0 A).1
noncomputable def n5:Nf (bodyR M Tryz.prog rxHint kk call dcall lp 5 [a0] A):=⟨_,by conv=>lhs;reduce;simp only [go_sem,Int.reduceOfNat,Int.reduceNegSucc,UInt8.reduceOfNat]⟩
noncomputable def f5:ORes:=(n5 mL (Run Tryz.prog rxA) (Dcall Tryz.prog rxA) (LP Tryz.prog rxA) a0 A).1
noncomputable def n22:Nf (bodyR M Tryz.prog rxHint kk call dcall lp 22 [a0,a1] A):=⟨_,by conv=>lhs;reduce;simp only [go_sem,Int.reduceOfNat,Int.reduceNegSucc,UInt8.reduceOfNat]⟩
noncomputable def f22:ORes:=(n22 mL (Run Tryz.prog rxA) (Dcall Tryz.prog rxA) (LP Tryz.prog rxA) a0 a1 A).1
theorem r22:Run Tryz.prog rxA 22 [a0,a1] A=f22 a0.canon a1.canon A:=(qbk Tryz.prog rxA kk rfl rfl (okf rfl) _ A).trans (n22 ..).2
noncomputable def n22_0:Nf (loopB M Tryz.prog rxHint kk call dcall lp 22 [0,1,0,1,1,1,1,1,1,1,1] [A0] e A):=⟨_,by conv=>lhs;reduce;simp only [go_sem,Int.reduceOfNat,Int.reduceNegSucc,UInt8.reduceOfNat]⟩
theorem q22_0:LP Tryz.prog rxA 22 [0,1,0,1,1,1,1,1,1,1,1] [A0] e A=(n22_0 mL (Run Tryz.prog rxA) (Dcall Tryz.prog rxA) (LP Tryz.prog rxA) A A0 e).1:=(LP_eq Tryz.prog rxA kk (okf rfl) rfl e A).trans (n22_0 ..).2
noncomputable def n87:Nf (bodyR M Tryz.prog rxHint kk call dcall lp 87 [a0,a1] A):=⟨_,by conv=>lhs;reduce;simp only [go_sem,Int.reduceOfNat,Int.reduceNegSucc,UInt8.reduceOfNat]⟩
noncomputable def f87:ORes:=(n87 mL (Run Tryz.prog rxA) (Dcall Tryz.prog rxA) (LP Tryz.prog rxA) a0 a1 A).1
theorem r87:Run Tryz.prog rxA 87 [a0,a1] A=f87 a0.canon a1.canon A:=(qbk Tryz.prog rxA kk rfl rfl (okf rfl) _ A).trans (n87 ..).2
noncomputable def n87_0:Nf (loopB M Tryz.prog rxHint kk call dcall lp 87 [0,1,0,1,1,1] [A0] e A):=⟨_,by conv=>lhs;reduce;simp only [go_sem,Int.reduceOfNat,Int.reduceNegSucc,UInt8.reduceOfNat]⟩
theorem q87_0:LP Tryz.prog rxA 87 [0,1,0,1,1,1] [A0] e A=(n87_0 mL (Run Tryz.prog rxA) (Dcall Tryz.prog rxA) (LP Tryz.prog rxA) A A0 e).1:=(LP_eq Tryz.prog rxA kk (okf rfl) rfl e A).trans (n87_0 ..).2
noncomputable def n64:Nf (bodyR M Tryz.prog rxHint kk call dcall lp 64 [a0] A):=⟨_,by conv=>lhs;reduce;simp only [go_sem,Int.reduceOfNat,Int.reduceNegSucc,UInt8.reduceOfNat]⟩
noncomputable def n23:Nf (bodyR M Tryz.prog rxHint kk call dcall lp 23 [a0] A):=⟨_,by conv=>lhs;reduce;simp only [go_sem,Int.reduceOfNat,Int.reduceNegSucc,UInt8.reduceOfNat]⟩
noncomputable def f23:ORes:=(n23 mL (Run Tryz.prog rxA) (Dcall Tryz.prog rxA) (LP Tryz.prog rxA) a0 A).1
theorem r23:Run Tryz.prog rxA 23 [a0] A=f23 a0.canon A:=(qbk Tryz.prog rxA kk rfl rfl (okf rfl) _ A).trans (n23 ..).2
noncomputable def n89:Nf (bodyR M Tryz.prog rxHint kk call dcall lp 89 [a0,a1] A):=⟨_,by conv=>lhs;reduce;simp only [go_sem,Int.reduceOfNat,Int.reduceNegSucc,UInt8.reduceOfNat]⟩
noncomputable def f89:ORes:=(n89 mL (Run Tryz.prog rxA) (Dcall Tryz.prog rxA) (LP Tryz.prog rxA) a0 a1 A).1
theorem r89:Run Tryz.prog rxA 89 [a0,a1] A=f89 a0.canon a1.canon A:=(qbk Tryz.prog rxA kk rfl rfl (okf rfl) _ A).trans (n89 ..).2
noncomputable def n80:Nf (bodyR M Tryz.prog rxHint kk call dcall lp 80 [a0] A):=⟨_,by conv=>lhs;reduce;simp only [go_sem,Int.reduceOfNat,Int.reduceNegSucc,UInt8.reduceOfNat]⟩
noncomputable def f80:ORes:=(n80 mL (Run Tryz.prog rxA) (Dcall Tryz.prog rxA) (LP Tryz.prog rxA) a0 A).1
theorem r80:Run Tryz.prog rxA 80 [a0] A=f80 a0.canon A:=(qbk Tryz.prog rxA kk rfl rfl (okf rfl) _ A).trans (n80 ..).2
noncomputable def n80_0:Nf (loopB M Tryz.prog rxHint kk call dcall lp 80 [0,1,0] [A0] e A):=⟨_,by conv=>lhs;reduce;simp only [go_sem,Int.reduceOfNat,Int.reduceNegSucc,UInt8.reduceOfNat]⟩
theorem q80_0:LP Tryz.prog rxA 80 [0,1,0] [A0] e A=(n80_0 mL (Run Tryz.prog rxA) (Dcall Tryz.prog rxA) (LP Tryz.prog rxA) A A0 e).1:=(LP_eq Tryz.prog rxA kk (okf rfl) rfl e A).trans (n80_0 ..).2
noncomputable def n80_1:Nf (loopB M Tryz.prog rxHint kk call dcall lp 80 [0,1,1] [A0] e A):=⟨_,by conv=>lhs;reduce;simp only [go_sem,Int.reduceOfNat,Int.reduceNegSucc,UInt8.reduceOfNat]⟩
theorem q80_1:LP Tryz.prog rxA 80 [0,1,1] [A0] e A=(n80_1 mL (Run Tryz.prog rxA) (Dcall Tryz.prog rxA) (LP Tryz.prog rxA) A A0 e).1:=(LP_eq Tryz.prog rxA kk (okf rfl) rfl e A).trans (n80_1 ..).2
noncomputable def n171:Nf (bodyR M Tryz.prog rxHint kk call dcall lp 171 [a0] A):=⟨_,by conv=>lhs;reduce;simp only [go_sem,Int.reduceOfNat,Int.reduceNegSucc,UInt8.reduceOfNat]⟩
noncomputable def f171:ORes:=(n171 mL (Run Tryz.prog rxA) (Dcall Tryz.prog rxA) (LP Tryz.prog rxA) a0 A).1
noncomputable def n171_0:Nf (loopB M Tryz.prog rxHint kk call dcall lp 171 [0,1,1] [A0] e A):=⟨_,by conv=>lhs;reduce;simp only [go_sem,Int.reduceOfNat,Int.reduceNegSucc,UInt8.reduceOfNat]⟩
noncomputable def n38:Nf (bodyR M Tryz.prog rxHint kk call dcall lp 38 [a0,a1] A):=⟨_,by conv=>lhs;reduce;simp only [go_sem,Int.reduceOfNat,Int.reduceNegSucc,UInt8.reduceOfNat]⟩
noncomputable def f38:ORes:=(n38 mL (Run Tryz.prog rxA) (Dcall Tryz.prog rxA) (LP Tryz.prog rxA) a0 a1 A).1
noncomputable def n205:Nf (bodyR M Tryz.prog rxHint kk call dcall lp 205 [a0] A):=⟨_,by conv=>lhs;reduce;simp only [go_sem,Int.reduceOfNat,Int.reduceNegSucc,UInt8.reduceOfNat]⟩
noncomputable def n121:Nf (bodyR M Tryz.prog rxHint kk call dcall lp 121 [a0,a1] A):=⟨_,by conv=>lhs;reduce;simp only [go_sem,Int.reduceOfNat,Int.reduceNegSucc,UInt8.reduceOfNat]⟩
noncomputable def f121:ORes:=(n121 mL (Run Tryz.prog rxA) (Dcall Tryz.prog rxA) (LP Tryz.prog rxA) a0 a1 A).1
theorem r121:Run Tryz.prog rxA 121 [a0,a1] A=f121 a0.canon a1.canon A:=(qbk Tryz.prog rxA kk rfl rfl (okf rfl) _ A).trans (n121 ..).2
noncomputable def n59:Nf (bodyR M Tryz.prog rxHint kk call dcall lp 59 [a0,a1,a2,a3] A):=⟨_,by conv=>lhs;reduce;simp only [go_sem,Int.reduceOfNat,Int.reduceNegSucc,UInt8.reduceOfNat]⟩
noncomputable def n160:Nf (bodyR M Tryz.prog rxHint kk call dcall lp 160 [a0,a1] A):=⟨_,by conv=>lhs;reduce;simp only [go_sem,Int.reduceOfNat,Int.reduceNegSucc,UInt8.reduceOfNat]⟩
noncomputable def f160:ORes:=(n160 mL (Run Tryz.prog rxA) (Dcall Tryz.prog rxA) (LP Tryz.prog rxA) a0 a1 A).1
theorem r160:Run Tryz.prog rxA 160 [a0,a1] A=f160 a0.canon a1.canon A:=(qbk Tryz.prog rxA kk rfl rfl (okf rfl) _ A).trans (n160 ..).2
noncomputable def n91:Nf (bodyR M Tryz.prog rxHint kk call dcall lp 91 [a0] A):=⟨_,by conv=>lhs;reduce;simp only [go_sem,Int.reduceOfNat,Int.reduceNegSucc,UInt8.reduceOfNat]⟩
noncomputable def f91:ORes:=(n91 mL (Run Tryz.prog rxA) (Dcall Tryz.prog rxA) (LP Tryz.prog rxA) a0 A).1
theorem r91:Run Tryz.prog rxA 91 [a0] A=f91 a0.canon A:=(qbk Tryz.prog rxA kk rfl rfl (okf rfl) _ A).trans (n91 ..).2
noncomputable def n162:Nf (bodyR M Tryz.prog rxHint kk call dcall lp 162 [a0,a1] A):=⟨_,by conv=>lhs;reduce;simp only [go_sem,Int.reduceOfNat,Int.reduceNegSucc,UInt8.reduceOfNat]⟩
noncomputable def f162:ORes:=(n162 mL (Run Tryz.prog rxA) (Dcall Tryz.prog rxA) (LP Tryz.prog rxA) a0 a1 A).1
theorem r162:Run Tryz.prog rxA 162 [a0,a1] A=f162 a0.canon a1.canon A:=(qbk Tryz.prog rxA kk rfl rfl (okf rfl) _ A).trans (n162 ..).2
noncomputable def n162_0:Nf (loopB M Tryz.prog rxHint kk call dcall lp 162 [0,1,0,1] [A0] e A):=⟨_,by conv=>lhs;reduce;simp only [go_sem,Int.reduceOfNat,Int.reduceNegSucc,UInt8.reduceOfNat]⟩
theorem q162_0:LP Tryz.prog rxA 162 [0,1,0,1] [A0] e A=(n162_0 mL (Run Tryz.prog rxA) (Dcall Tryz.prog rxA) (LP Tryz.prog rxA) A A0 e).1:=(LP_eq Tryz.prog rxA kk (okf rfl) rfl e A).trans (n162_0 ..).2
noncomputable def n127:Nf (bodyR M Tryz.prog rxHint kk call dcall lp 127 [a0,a1] A):=⟨_,by conv=>lhs;reduce;simp only [go_sem,Int.reduceOfNat,Int.reduceNegSucc,UInt8.reduceOfNat]⟩
noncomputable def f127:ORes:=(n127 mL (Run Tryz.prog rxA) (Dcall Tryz.prog rxA) (LP Tryz.prog rxA) a0 a1 A).1
theorem r127:Run Tryz.prog rxA 127 [a0,a1] A=f127 a0.canon a1.canon A:=(qbk Tryz.prog rxA kk rfl rfl (okf rfl) _ A).trans (n127 ..).2
noncomputable def n53:Nf (bodyR M Tryz.prog rxHint kk call dcall lp 53 [a0] A):=⟨_,by conv=>lhs;reduce;simp only [go_sem,Int.reduceOfNat,Int.reduceNegSucc,UInt8.reduceOfNat]⟩
noncomputable def f53:ORes:=(n53 mL (Run Tryz.prog rxA) (Dcall Tryz.prog rxA) (LP Tryz.prog rxA) a0 A).1
theorem r53:Run Tryz.prog rxA 53 [a0] A=f53 a0.canon A:=(qbk Tryz.prog rxA kk rfl rfl (okf rfl) _ A).trans (n53 ..).2
noncomputable def n149:Nf (bodyR M Tryz.prog rxHint kk call dcall lp 149 [a0] A):=⟨_,by conv=>lhs;reduce;simp only [go_sem,Int.reduceOfNat,Int.reduceNegSucc,UInt8.reduceOfNat]⟩
noncomputable def f149:ORes:=(n149 mL (Run Tryz.prog rxA) (Dcall Tryz.prog rxA) (LP Tryz.prog rxA) a0 A).1
theorem r149:Run Tryz.prog rxA 149 [a0] A=f149 a0.canon A:=(qbk Tryz.prog rxA kk rfl rfl (okf rfl) _ A).trans (n149 ..).2
noncomputable def n149_0:Nf (loopB M Tryz.prog rxHint kk call dcall lp 149 [0,1,0,1] [A0] e A):=⟨_,by conv=>lhs;reduce;simp only [go_sem,Int.reduceOfNat,Int.reduceNegSucc,UInt8.reduceOfNat]⟩
theorem q149_0:LP Tryz.prog rxA 149 [0,1,0,1] [A0] e A=(n149_0 mL (Run Tryz.prog rxA) (Dcall Tryz.prog rxA) (LP Tryz.prog rxA) A A0 e).1:=(LP_eq Tryz.prog rxA kk (okf rfl) rfl e A).trans (n149_0 ..).2
noncomputable def n93:Nf (bodyR M Tryz.prog rxHint kk call dcall lp 93 [a0] A):=⟨_,by conv=>lhs;reduce;simp only [go_sem,Int.reduceOfNat,Int.reduceNegSucc,UInt8.reduceOfNat]⟩
noncomputable def f93:ORes:=(n93 mL (Run Tryz.prog rxA) (Dcall Tryz.prog rxA) (LP Tryz.prog rxA) a0 A).1
theorem r93:Run Tryz.prog rxA 93 [a0] A=f93 a0.canon A:=(qbk Tryz.prog rxA kk rfl rfl (okf rfl) _ A).trans (n93 ..).2
noncomputable def n106:Nf (bodyR M Tryz.prog rxHint kk call dcall lp 106 [a0,a1,a2] A):=⟨_,by conv=>lhs;reduce;simp only [go_sem,Int.reduceOfNat,Int.reduceNegSucc,UInt8.reduceOfNat]⟩
noncomputable def f106:ORes:=(n106 mL (Run Tryz.prog rxA) (Dcall Tryz.prog rxA) (LP Tryz.prog rxA) a0 a1 a2 A).1
theorem r106:Run Tryz.prog rxA 106 [a0,a1,a2] A=f106 a0.canon a1.canon a2.canon A:=(qbk Tryz.prog rxA kk rfl rfl (okf rfl) _ A).trans (n106 ..).2
noncomputable def n191:Nf (bodyR M Tryz.prog rxHint kk call dcall lp 191 [a0] A):=⟨_,by conv=>lhs;reduce;simp only [go_sem,Int.reduceOfNat,Int.reduceNegSucc,UInt8.reduceOfNat]⟩
end Go.Vm.Rx

namespace Go.Vm.Rx
open Go.Proofs
set_option maxRecDepth 100000
set_option maxHeartbeats 0
attribute [local irreducible] bn mp ifb D.bool? D.int? D.str? D.agg? D.cell? D.cellsT ofCells guardB layCells eqOf binO unD convO sliceStrO sliceSlO fieldAddrO fieldO indexAddrO indexStrO assertV extractD nilCheckD lenStrO lenSlO minMaxD loadO storeO boxO sliceParts makeO appendO litO tokO deferO bytesConvO panicD applyD Kept leaveD D.shut D.shutL guardP leavesD shV recBusy recSet closeSt endX seqCall seqI exS leaveM cAt cAtI D.canon D.canonL Res.elim allocO sLen sApp sTake gkM gsM gwM clM jn Env.g yldB mapGetO mapPutO mapEntryO entryStoreO mapDelO makeMapR mapLenO keyK eqKS
variable (M:Mode) (call:CallT) (dcall:DcallT) (lp:LpT) (a0 a1 a2 a3 a4:D) (A A0 A1 A2:St) (e:Env)
noncomputable def n166:Nf (bodyR M Tryz.prog rxHint kk call dcall lp 166 [a0,a1] A):=⟨_,by conv=>lhs;reduce;simp only [go_sem,Int.reduceOfNat,Int.reduceNegSucc,UInt8.reduceOfNat]⟩
noncomputable def f166:ORes:=(n166 mL (Run Tryz.prog rxA) (Dcall Tryz.prog rxA) (LP Tryz.prog rxA) a0 a1 A).1
theorem r166:Run Tryz.prog rxA 166 [a0,a1] A=f166 a0.canon a1.canon A:=(qbk Tryz.prog rxA kk rfl rfl (okf rfl) _ A).trans (n166 ..).2
noncomputable def n166_0:Nf (loopB M Tryz.prog rxHint kk call dcall lp 166 [0,0,1,1,1,1,1,1,1,1] [A0] e A):=⟨_,by conv=>lhs;reduce;simp only [go_sem,Int.reduceOfNat,Int.reduceNegSucc,UInt8.reduceOfNat]⟩
noncomputable def n61:Nf (bodyR M Tryz.prog rxHint kk call dcall lp 61 [a0] A):=⟨_,by conv=>lhs;reduce;simp only [go_sem,Int.reduceOfNat,Int.reduceNegSucc,UInt8.reduceOfNat]⟩
noncomputable def f61:ORes:=(n61 mL (Run Tryz.prog rxA) (Dcall Tryz.prog rxA) (LP Tryz.prog rxA) a0 A).1
theorem r61:Run Tryz.prog rxA 61 [a0] A=f61 a0.canon A:=(qbk Tryz.prog rxA kk rfl rfl (okf rfl) _ A).trans (n61 ..).2
noncomputable def n61_0:Nf (loopB M Tryz.prog rxHint kk call dcall lp 61 [0] [A0] e A):=⟨_,by conv=>lhs;reduce;simp only [go_sem,Int.reduceOfNat,Int.reduceNegSucc,UInt8.reduceOfNat]⟩
theorem q61_0:LP Tryz.prog rxA 61 [0] [A0] e A=(n61_0 mL (Run Tryz.prog rxA) (Dcall Tryz.prog rxA) (LP Tryz.prog rxA) A A0 e).1:=(LP_eq Tryz.prog rxA kk (okf rfl) rfl e A).trans (n61_0 ..).2
noncomputable def n56:Nf (bodyR M Tryz.prog rxHint kk call dcall lp 56 [a0] A):=⟨_,by conv=>lhs;reduce;simp only [go_sem,Int.reduceOfNat,Int.reduceNegSucc,UInt8.reduceOfNat]⟩
noncomputable def f56:ORes:=(n56 mL (Run Tryz.prog rxA) (Dcall Tryz.prog rxA) (LP Tryz.prog rxA) a0 A).1
theorem r56:Run Tryz.prog rxA 56 [a0] A=f56 a0.canon A:=(qbk Tryz.prog rxA kk rfl rfl (okf rfl) _ A).trans (n56 ..).2
noncomputable def n56_0:Nf (loopB M Tryz.prog rxHint kk call dcall lp 56 [0,1,0,1,1] [A0] e A):=⟨_,by conv=>lhs;reduce;simp only [go_sem,Int.reduceOfNat,Int.reduceNegSucc,UInt8.reduceOfNat]⟩
theorem q56_0:LP Tryz.prog rxA 56 [0,1,0,1,1] [A0] e A=(n56_0 mL (Run Tryz.prog rxA) (Dcall Tryz.prog rxA) (LP Tryz.prog rxA) A A0 e).1:=(LP_eq Tryz.prog rxA kk (okf rfl) rfl e A).trans (n56_0 ..).2
noncomputable def n56_1:Nf (loopB M Tryz.prog rxHint kk call dcall lp 56 [0,1,0,1,1,1] [A0] e A):=⟨_,by conv=>lhs;reduce;simp only [go_sem,Int.reduceOfNat,Int.reduceNegSucc,UInt8.reduceOfNat]⟩
theorem q56_1:LP Tryz.prog rxA 56 [0,1,0,1,1,1] [A0] e A=(n56_1 mL (Run Tryz.prog rxA) (Dcall Tryz.prog rxA) (LP Tryz.prog rxA) A A0 e).1:=(LP_eq Tryz.prog rxA kk (okf rfl) rfl e A).trans (n56_1 ..).2
noncomputable def n83:Nf (bodyR M Tryz.prog rxHint kk call dcall lp 83 [a0] A):=⟨_,by conv=>lhs;reduce;simp only [go_sem,Int.reduceOfNat,Int.reduceNegSucc,UInt8.reduceOfNat]⟩
noncomputable def f83:ORes:=(n83 mL (Run Tryz.prog rxA) (Dcall Tryz.prog rxA) (LP Tryz.prog rxA) a0 A).1
theorem r83:Run Tryz.prog rxA 83 [a0] A=f83 a0.canon A:=(qbk Tryz.prog rxA kk rfl rfl (okf rfl) _ A).trans (n83 ..).2
noncomputable def n29:Nf (bodyR M Tryz.prog rxHint kk call dcall lp 29 [a0] A):=⟨_,by conv=>lhs;reduce;simp only [go_sem,Int.reduceOfNat,Int.reduceNegSucc,UInt8.reduceOfNat]⟩
noncomputable def f29:ORes:=(n29 mL (Run Tryz.prog rxA) (Dcall Tryz.prog rxA) (LP Tryz.prog rxA) a0 A).1
theorem r29:Run Tryz.prog rxA 29 [a0] A=f29 a0.canon A:=(qbk Tryz.prog rxA kk rfl rfl (okf rfl) _ A).trans (n29 ..).2
noncomputable def n29_0:Nf (loopB M Tryz.prog rxHint kk call dcall lp 29 [0,1,0,1,1,1,1] [A0] e A):=⟨_,by conv=>lhs;reduce;simp only [go_sem,Int.reduceOfNat,Int.reduceNegSucc,UInt8.reduceOfNat]⟩
theorem q29_0:LP Tryz.prog rxA 29 [0,1,0,1,1,1,1] [A0] e A=(n29_0 mL (Run Tryz.prog rxA) (Dcall Tryz.prog rxA) (LP Tryz.prog rxA) A A0 e).1:=(LP_eq Tryz.prog rxA kk (okf rfl) rfl e A).trans (n29_0 ..).2
noncomputable def n17:Nf (bodyR M Tryz.prog rxHint kk call dcall lp 17 [a0,a1] A):=⟨_,by conv=>lhs;reduce;simp only [go_sem,Int.reduceOfNat,Int.reduceNegSucc,UInt8.reduceOfNat]⟩
noncomputable def f17:ORes:=(n17 mL (Run Tryz.prog rxA) (Dcall Tryz.prog rxA) (LP Tryz.prog rxA) a0 a1 A).1
noncomputable def n108:Nf (bodyR M Tryz.prog rxHint kk call dcall lp 108 [a0] A):=⟨_,by conv=>lhs;reduce;simp only [go_sem,Int.reduceOfNat,Int.reduceNegSucc,UInt8.reduceOfNat]⟩
noncomputable def f108:ORes:=(n108 mL (Run Tryz.prog rxA) (Dcall Tryz.prog rxA) (LP Tryz.prog rxA) a0 A).1
theorem r108:Run Tryz.prog rxA 108 [a0] A=f108 a0.canon A:=(qbk Tryz.prog rxA kk rfl rfl (okf rfl) _ A).trans (n108 ..).2
noncomputable def n108_0:Nf (loopB M Tryz.prog rxHint kk call dcall lp 108 [0,0,1,1,1,1,1] [A0] e A):=⟨_,by conv=>lhs;reduce;simp only [go_sem,Int.reduceOfNat,Int.reduceNegSucc,UInt8.reduceOfNat]⟩
theorem q108_0:LP Tryz.prog rxA 108 [0,0,1,1,1,1,1] [A0] e A=(n108_0 mL (Run Tryz.prog rxA) (Dcall Tryz.prog rxA) (LP Tryz.prog rxA) A A0 e).1:=(LP_eq Tryz.prog rxA kk (okf rfl) rfl e A).trans (n108_0 ..).2
noncomputable def n50:Nf (bodyR M Tryz.prog rxHint kk call dcall lp 50 [a0] A):=⟨_,by conv=>lhs;reduce;simp only [go_sem,Int.reduceOfNat,Int.reduceNegSucc,UInt8.reduceOfNat]⟩
noncomputable def f50:ORes:=(n50 mL (Run Tryz.prog rxA) (Dcall Tryz.prog rxA) (LP Tryz.prog rxA) a0 A).1
theorem r50:Run Tryz.prog rxA 50 [a0] A=f50 a0.canon A:=(qbk Tryz.prog rxA kk rfl rfl (okf rfl) _ A).trans (n50 ..).2
noncomputable def n50_0:Nf (loopB M Tryz.prog rxHint kk call dcall lp 50 [0,1,0,1] [A0] e A):=⟨_,by conv=>lhs;reduce;simp only [go_sem,Int.reduceOfNat,Int.reduceNegSucc,UInt8.reduceOfNat]⟩
theorem q50_0:LP Tryz.prog rxA 50 [0,1,0,1] [A0] e A=(n50_0 mL (Run Tryz.prog rxA) (Dcall Tryz.prog rxA) (LP Tryz.prog rxA) A A0 e).1:=(LP_eq Tryz.prog rxA kk (okf rfl) rfl e A).trans (n50_0 ..).2
noncomputable def n54:Nf (bodyR M Tryz.prog rxHint kk call dcall lp 54 [a0] A):=⟨_,by conv=>lhs;reduce;simp only [go_sem,Int.reduceOfNat,Int.reduceNegSucc,UInt8.reduceOfNat]⟩
noncomputable def f54:ORes:=(n54 mL (Run Tryz.prog rxA) (Dcall Tryz.prog rxA) (LP Tryz.prog rxA) a0 A).1
theorem r54:Run Tryz.prog rxA 54 [a0] A=f54 a0.canon A:=(qbk Tryz.prog rxA kk rfl rfl (okf rfl) _ A).trans (n54 ..).2
noncomputable def n54_0:Nf (loopB M Tryz.prog rxHint kk call dcall lp 54 [0,1,0,1,1] [A0] e A):=⟨_,by conv=>lhs;reduce;simp only [go_sem,Int.reduceOfNat,Int.reduceNegSucc,UInt8.reduceOfNat]⟩
theorem q54_0:LP Tryz.prog rxA 54 [0,1,0,1,1] [A0] e A=(n54_0 mL (Run Tryz.prog rxA) (Dcall Tryz.prog rxA) (LP Tryz.prog rxA) A A0 e).1:=(LP_eq Tryz.prog rxA kk (okf rfl) rfl e A).trans (n54_0 ..).2
noncomputable def n54_1:Nf (loopB M Tryz.prog rxHint kk call dcall lp 54 [0,1,0,1,1,1,1] [A0] e A):=⟨_,by conv=>lhs;reduce;simp only [go_sem,Int.reduceOfNat,Int.reduceNegSucc,UInt8.reduceOfNat]⟩
theorem q54_1:LP Tryz.prog rxA 54 [0,1,0,1,1,1,1] [A0] e A=(n54_1 mL (Run Tryz.prog rxA) (Dcall Tryz.prog rxA) (LP Tryz.prog rxA) A A0 e).1:=(LP_eq Tryz.prog rxA kk (okf rfl) rfl e A).trans (n54_1 ..).2
noncomputable def n99:Nf (bodyR M Tryz.prog rxHint kk call dcall lp 99 [a0,a1] A):=⟨_,by conv=>lhs;reduce;simp only [go_sem,Int.reduceOfNat,Int.reduceNegSucc,UInt8.reduceOfNat]⟩
noncomputable def f99:ORes:=(n99 mL (Run Tryz.prog rxA) (Dcall Tryz.prog rxA) (LP Tryz.prog rxA) a0 a1 A).1
theorem r99:Run Tryz.prog rxA 99 [a0,a1] A=f99 a0.canon a1.canon A:=(qbk Tryz.prog rxA kk rfl rfl (okf rfl) _ A).trans (n99 ..).2
noncomputable def n99_0:Nf (loopB M Tryz.prog rxHint kk call dcall lp 99 [0,1,0,1,1,1] [A0] e A):=⟨_,by conv=>lhs;reduce;simp only [go_sem,Int.reduceOfNat,Int.reduceNegSucc,UInt8.reduceOfNat]⟩
theorem q99_0:LP Tryz.prog rxA 99 [0,1,0,1,1,1] [A0] e A=(n99_0 mL (Run Tryz.prog rxA) (Dcall Tryz.prog rxA) (LP Tryz.prog rxA) A A0 e).1:=(LP_eq Tryz.prog rxA kk (okf rfl) rfl e A).trans (n99_0 ..).2
noncomputable def n105:Nf (bodyR M Tryz.prog rxHint kk call dcall lp 105 [a0,a1,a2] A):=⟨_,by conv=>lhs;reduce;simp only [go_sem,Int.reduceOfNat,Int.reduceNegSucc,UInt8.reduceOfNat]⟩
noncomputable def f105:ORes:=(n105 mL (Run Tryz.prog rxA) (Dcall Tryz.prog rxA) (LP Tryz.prog rxA) a0 a1 a2 A).1
theorem r105:Run Tryz.prog rxA 105 [a0,a1,a2] A=f105 a0 a1 a2 A:=(qbk Tryz.prog rxA kk rfl rfl (okf rfl) _ A).trans (n105 ..).2
noncomputable def n105_0:Nf (loopB M Tryz.prog rxHint kk call dcall lp 105 [0,1,0,1,1] [A0] e A):=⟨_,by conv=>lhs;reduce;simp only [go_sem,Int.reduceOfNat,Int.reduceNegSucc,UInt8.reduceOfNat]⟩
theorem q105_0:LP Tryz.prog rxA 105 [0,1,0,1,1] [A0] e A=(n105_0 mL (Run Tryz.prog rxA) (Dcall Tryz.prog rxA) (LP Tryz.prog rxA) A A0 e).1:=(LP_eq Tryz.prog rxA kk (okf rfl) rfl e A).trans (n105_0 ..).2
noncomputable def n24:Nf (bodyR M Tryz.prog rxHint kk call dcall lp 24 [a0,a1,a2,a3] A):=⟨_,by conv=>lhs;reduce;simp only [go_sem,Int.reduceOfNat,Int.reduceNegSucc,UInt8.reduceOfNat]⟩
noncomputable def n112:Nf (bodyR M Tryz.prog rxHint kk call dcall lp 112 [a0,a1,a2] A):=⟨_,by conv=>lhs;reduce;simp only [go_sem,Int.reduceOfNat,Int.reduceNegSucc,UInt8.reduceOfNat]⟩
noncomputable def n161:Nf (bodyR M Tryz.prog rxHint kk call dcall lp 161 [a0,a1] A):=⟨_,by conv=>lhs;reduce;simp only [go_sem,Int.reduceOfNat,Int.reduceNegSucc,UInt8.reduceOfNat]⟩
noncomputable def f161:ORes:=(n161 mL (Run Tryz.prog rxA) (Dcall Tryz.prog rxA) (LP Tryz.prog rxA) a0 a1 A).1
theorem r161:Run Tryz.prog rxA 161 [a0,a1] A=f161 a0.canon a1.canon A:=(qbk Tryz.prog rxA kk rfl rfl (okf rfl) _ A).trans (n161 ..).2
noncomputable def n101:Nf (bodyR M Tryz.prog rxHint kk call dcall lp 101 [a0,a1] A):=⟨_,by conv=>lhs;reduce;simp only [go_sem,Int.reduceOfNat,Int.reduceNegSucc,UInt8.reduceOfNat]⟩
noncomputable def f101:ORes:=(n101 mL (Run Tryz.prog rxA) (Dcall Tryz.prog rxA) (LP Tryz.prog rxA) a0 a1 A).1
theorem r101:Run Tryz.prog rxA 101 [a0,a1] A=f101 a0.canon a1.canon A:=(qbk Tryz.prog rxA kk rfl rfl (okf rfl) _ A).trans (n101 ..).2
noncomputable def n101_0:Nf (loopB M Tryz.prog rxHint kk call dcall lp 101 [0,1,0,1] [A0] e A):=⟨_,by conv=>lhs;reduce;simp only [go_sem,Int.reduceOfNat,Int.reduceNegSucc,UInt8.reduceOfNat]⟩
theorem q101_0:LP Tryz.prog rxA 101 [0,1,0,1] [A0] e A=(n101_0 mL (Run Tryz.prog rxA) (Dcall Tryz.prog rxA) (LP Tryz.prog rxA) A A0 e).1:=(LP_eq Tryz.prog rxA kk (okf rfl) rfl e A).trans (n101_0 ..).2
noncomputable def n62:Nf (bodyR M Tryz.prog rxHint kk call dcall lp 62 [a0,a1] A):=⟨_,by conv=>lhs;reduce;simp only [go_sem,Int.reduceOfNat,Int.reduceNegSucc,UInt8.reduceOfNat]⟩
noncomputable def n138:Nf (bodyR M Tryz.prog rxHint kk call dcall lp 138 [a0] A):=⟨_,by conv=>lhs;reduce;simp only [go_sem,Int.reduceOfNat,Int.reduceNegSucc,UInt8.reduceOfNat]⟩
noncomputable def f138:ORes:=(n138 mL (Run Tryz.prog rxA) (Dcall Tryz.prog rxA) (LP Tryz.prog rxA) a0 A).1
theorem r138:Run Tryz.prog rxA 138 [a0] A=f138 a0.canon A:=(qbk Tryz.prog rxA kk rfl rfl (okf rfl) _ A).trans (n138 ..).2
noncomputable def n55:Nf (bodyR M Tryz.prog rxHint kk call dcall lp 55 [a0,a1] A):=⟨_,by conv=>lhs;reduce;simp only [go_sem,Int.reduceOfNat,Int.reduceNegSucc,UInt8.reduceOfNat]⟩
noncomputable def f55:ORes:=(n55 mL (Run Tryz.prog rxA) (Dcall Tryz.prog rxA) (LP Tryz.prog rxA) a0 a1 A).1
theorem r55:Run Tryz.prog rxA 55 [a0,a1] A=f55 a0.canon a1.canon A:=(qbk Tryz.prog rxA kk rfl rfl (okf rfl) _ A).trans (n55 ..).2
noncomputable def n114:Nf (bodyR M Tryz.prog rxHint kk call dcall lp 114 [a0,a1] A):=⟨_,by conv=>lhs;reduce;simp only [go_sem,Int.reduceOfNat,Int.reduceNegSucc,UInt8.reduceOfNat]⟩
noncomputable def n120:Nf (bodyR M Tryz.prog rxHint kk call dcall lp 120 [a0,a1] A):=⟨_,by conv=>lhs;reduce;simp only [go_sem,Int.reduceOfNat,Int.reduceNegSucc,UInt8.reduceOfNat]⟩
noncomputable def f120:ORes:=(n120 mL (Run Tryz.prog rxA) (Dcall Tryz.prog rxA) (LP Tryz.prog rxA) a0 a1 A).1
theorem r120:Run Tryz.prog rxA 120 [a0,a1] A=f120 a0.canon a1.canon A:=(qbk Tryz.prog rxA kk rfl rfl (okf rfl) _ A).trans (n120 ..).2
noncomputable def n137:Nf (bodyR M Tryz.prog rxHint kk call dcall lp 137 [a0,a1] A):=⟨_,by conv=>lhs;reduce;simp only [go_sem,Int.reduceOfNat,Int.reduceNegSucc,UInt8.reduceOfNat]⟩
noncomputable def f137:ORes:=(n137 mL (Run Tryz.prog rxA) (Dcall Tryz.prog rxA) (LP Tryz.prog rxA) a0 a1 A).1
theorem r137:Run Tryz.prog rxA 137 [a0,a1] A=f137 a0.canon a1.canon A:=(qbk Tryz.prog rxA kk rfl rfl (okf rfl) _ A).trans (n137 ..).2
noncomputable def n90:Nf (bodyR M Tryz.prog rxHint kk call dcall lp 90 [] A):=⟨_,by conv=>lhs;reduce;simp only [go_sem,Int.reduceOfNat,Int.reduceNegSucc,UInt8.reduceOfNat]⟩
noncomputable def f90:ORes:=(n90 mL (Run Tryz.prog rxA) (Dcall Tryz.prog rxA) (LP Tryz.prog rxA) A).1
theorem r90:Run Tryz.prog rxA 90 [] A=f90  A:=(qbk Tryz.prog rxA kk rfl rfl (okf rfl) _ A).trans (n90 ..).2
end Go.Vm.Rx
