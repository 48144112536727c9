/- RxN2, RxN3 in one text. -/
import Derived.Test.YtagmpieoalkneaaGreatDoorRxOk
set_option linter.all false
namespace Go.Vm.Rx
open Go.Proofs
set_option maxRecDepth 100000
set_option maxHeartbeats 0
attribute [local irreducible] bn mp ifb D.bool? D.int? D.str? D.agg? D.cell? D.cellsT ofCells guardB layCells eqOf binO unD convO sliceStrO sliceSlO fieldAddrO fieldO indexAddrO indexStrO assertV extractD nilCheckD lenStrO lenSlO minMaxD loadO storeO boxO sliceParts makeO appendO litO tokO deferO bytesConvO panicD applyD Kept leaveD D.shut D.shutL guardP leavesD shV recBusy recSet closeSt endX seqCall seqI exS leaveM cAt cAtI D.canon D.canonL Res.elim allocO sLen sApp sTake gkM gsM gwM clM jn Env.g yldB mapGetO mapPutO mapEntryO entryStoreO mapDelO makeMapR mapLenO keyK eqKS
variable (M:Mode) (call:CallT) (dcall:DcallT) (lp:LpT) (a0 a1 a2 a3 a4:D) (A A0 A1 A2:St) (e:Env)
noncomputable def n25:Nf (bodyR M Tryz.prog rxHint kk call dcall lp 25 [a0] A):=⟨_,by conv=>lhs;reduce;simp only [go_sem,Int.reduceOfNat,Int.reduceNegSucc,UInt8.reduceOfNat]⟩
noncomputable def n25_0:Nf (loopB M Tryz.prog rxHint kk call dcall lp 25 [0,1,0,1,1,1,1,1,1,1,1,1,1,1,1] [A0] e A):=⟨_,by conv=>lhs;reduce;simp only [go_sem,Int.reduceOfNat,Int.reduceNegSucc,UInt8.reduceOfNat]⟩
noncomputable def n18:Nf (bodyR M Tryz.prog rxHint kk call dcall lp 18 [a0] A):=⟨_,by conv=>lhs;reduce;simp only [go_sem,Int.reduceOfNat,Int.reduceNegSucc,UInt8.reduceOfNat]⟩
noncomputable def f18:ORes:=(n18 mL (Run Tryz.prog rxA) (Dcall Tryz.prog rxA) (LP Tryz.prog rxA) a0 A).1
theorem r18:Run Tryz.prog rxA 18 [a0] A=f18 a0.canon A:=(qbk Tryz.prog rxA kk rfl rfl (okf rfl) _ A).trans (n18 ..).2
noncomputable def n18_0:Nf (loopB M Tryz.prog rxHint kk call dcall lp 18 [0,1,0,1,1,1] [A0] e A):=⟨_,by conv=>lhs;reduce;simp only [go_sem,Int.reduceOfNat,Int.reduceNegSucc,UInt8.reduceOfNat]⟩
theorem q18_0:LP Tryz.prog rxA 18 [0,1,0,1,1,1] [A0] e A=(n18_0 mL (Run Tryz.prog rxA) (Dcall Tryz.prog rxA) (LP Tryz.prog rxA) A A0 e).1:=(LP_eq Tryz.prog rxA kk (okf rfl) rfl e A).trans (n18_0 ..).2
noncomputable def n18_1:Nf (loopB M Tryz.prog rxHint kk call dcall lp 18 [0,1,0,1,1,1,1,1,1,1] [A0] e A):=⟨_,by conv=>lhs;reduce;simp only [go_sem,Int.reduceOfNat,Int.reduceNegSucc,UInt8.reduceOfNat]⟩
theorem q18_1:LP Tryz.prog rxA 18 [0,1,0,1,1,1,1,1,1,1] [A0] e A=(n18_1 mL (Run Tryz.prog rxA) (Dcall Tryz.prog rxA) (LP Tryz.prog rxA) A A0 e).1:=(LP_eq Tryz.prog rxA kk (okf rfl) rfl e A).trans (n18_1 ..).2
noncomputable def n18_2:Nf (loopB M Tryz.prog rxHint kk call dcall lp 18 [0,1,1,0,0,1,1,0,0,1,0,1,1,1,1,1,1,1] [A1,A0] e A):=⟨_,by conv=>lhs;reduce;simp only [go_sem,Int.reduceOfNat,Int.reduceNegSucc,UInt8.reduceOfNat]⟩
theorem q18_2:LP Tryz.prog rxA 18 [0,1,1,0,0,1,1,0,0,1,0,1,1,1,1,1,1,1] [A1,A0] e A=(n18_2 mL (Run Tryz.prog rxA) (Dcall Tryz.prog rxA) (LP Tryz.prog rxA) A A0 A1 e).1:=(LP_eq Tryz.prog rxA kk (okf rfl) rfl e A).trans (n18_2 ..).2
noncomputable def n126:Nf (bodyR M Tryz.prog rxHint kk call dcall lp 126 [a0] A):=⟨_,by conv=>lhs;reduce;simp only [go_sem,Int.reduceOfNat,Int.reduceNegSucc,UInt8.reduceOfNat]⟩
noncomputable def f126:ORes:=(n126 mL (Run Tryz.prog rxA) (Dcall Tryz.prog rxA) (LP Tryz.prog rxA) a0 A).1
theorem r126:Run Tryz.prog rxA 126 [a0] A=f126 a0.canon A:=(qbk Tryz.prog rxA kk rfl rfl (okf rfl) _ A).trans (n126 ..).2
noncomputable def n21:Nf (bodyR M Tryz.prog rxHint kk call dcall lp 21 [a0,a1] A):=⟨_,by conv=>lhs;reduce;simp only [go_sem,Int.reduceOfNat,Int.reduceNegSucc,UInt8.reduceOfNat]⟩
noncomputable def f21:ORes:=(n21 mL (Run Tryz.prog rxA) (Dcall Tryz.prog rxA) (LP Tryz.prog rxA) a0 a1 A).1
theorem r21:Run Tryz.prog rxA 21 [a0,a1] A=f21 a0.canon a1.canon A:=(qbk Tryz.prog rxA kk rfl rfl (okf rfl) _ A).trans (n21 ..).2
noncomputable def n21_0:Nf (loopB M Tryz.prog rxHint kk call dcall lp 21 [0,1,0,1,1,1,1,1] [A0] e A):=⟨_,by conv=>lhs;reduce;simp only [go_sem,Int.reduceOfNat,Int.reduceNegSucc,UInt8.reduceOfNat]⟩
theorem q21_0:LP Tryz.prog rxA 21 [0,1,0,1,1,1,1,1] [A0] e A=(n21_0 mL (Run Tryz.prog rxA) (Dcall Tryz.prog rxA) (LP Tryz.prog rxA) A A0 e).1:=(LP_eq Tryz.prog rxA kk (okf rfl) rfl e A).trans (n21_0 ..).2
noncomputable def n20:Nf (bodyR M Tryz.prog rxHint kk call dcall lp 20 [a0] A):=⟨_,by conv=>lhs;reduce;simp only [go_sem,Int.reduceOfNat,Int.reduceNegSucc,UInt8.reduceOfNat]⟩
noncomputable def f20:ORes:=(n20 mL (Run Tryz.prog rxA) (Dcall Tryz.prog rxA) (LP Tryz.prog rxA) a0 A).1
theorem r20:Run Tryz.prog rxA 20 [a0] A=f20 a0.canon A:=(qbk Tryz.prog rxA kk rfl rfl (okf rfl) _ A).trans (n20 ..).2
noncomputable def n3:Nf (bodyR M Tryz.prog rxHint kk call dcall lp 3 [a0] A):=⟨_,by conv=>lhs;reduce;simp only [go_sem,Int.reduceOfNat,Int.reduceNegSucc,UInt8.reduceOfNat]⟩
noncomputable def f3:ORes:=(n3 mL (Run Tryz.prog rxA) (Dcall Tryz.prog rxA) (LP Tryz.prog rxA) a0 A).1
theorem r3:Run Tryz.prog rxA 3 [a0] A=f3 a0.canon A:=(qbk Tryz.prog rxA kk rfl rfl (okf rfl) _ A).trans (n3 ..).2
noncomputable def n66:Nf (bodyR M Tryz.prog rxHint kk call dcall lp 66 [a0,a1] A):=⟨_,by conv=>lhs;reduce;simp only [go_sem,Int.reduceOfNat,Int.reduceNegSucc,UInt8.reduceOfNat]⟩
noncomputable def n147:Nf (bodyR M Tryz.prog rxHint kk call dcall lp 147 [a0,a1] A):=⟨_,by conv=>lhs;reduce;simp only [go_sem,Int.reduceOfNat,Int.reduceNegSucc,UInt8.reduceOfNat]⟩
noncomputable def n147_0:Nf (loopB M Tryz.prog rxHint kk call dcall lp 147 [0,1,0,1,1] [A0] e A):=⟨_,by conv=>lhs;reduce;simp only [go_sem,Int.reduceOfNat,Int.reduceNegSucc,UInt8.reduceOfNat]⟩
noncomputable def n11:Nf (bodyR M Tryz.prog rxHint kk call dcall lp 11 [] A):=⟨_,by conv=>lhs;reduce;simp only [go_sem,Int.reduceOfNat,Int.reduceNegSucc,UInt8.reduceOfNat]⟩
noncomputable def n113:Nf (bodyR M Tryz.prog rxHint kk call dcall lp 113 [a0] A):=⟨_,by conv=>lhs;reduce;simp only [go_sem,Int.reduceOfNat,Int.reduceNegSucc,UInt8.reduceOfNat]⟩
noncomputable def f113:ORes:=(n113 mL (Run Tryz.prog rxA) (Dcall Tryz.prog rxA) (LP Tryz.prog rxA) a0 A).1
noncomputable def n113_0:Nf (loopB M Tryz.prog rxHint kk call dcall lp 113 [0,0,1,1] [A0] e A):=⟨_,by conv=>lhs;reduce;simp only [go_sem,Int.reduceOfNat,Int.reduceNegSucc,UInt8.reduceOfNat]⟩
noncomputable def n63:Nf (bodyR M Tryz.prog rxHint kk call dcall lp 63 [a0] A):=⟨_,by conv=>lhs;reduce;simp only [go_sem,Int.reduceOfNat,Int.reduceNegSucc,UInt8.reduceOfNat]⟩
noncomputable def n172:Nf (bodyR M Tryz.prog rxHint kk call dcall lp 172 [a0] A):=⟨_,by conv=>lhs;reduce;simp only [go_sem,Int.reduceOfNat,Int.reduceNegSucc,UInt8.reduceOfNat]⟩
noncomputable def n132:Nf (bodyR M Tryz.prog rxHint kk call dcall lp 132 [a0,a1] A):=⟨_,by conv=>lhs;reduce;simp only [go_sem,Int.reduceOfNat,Int.reduceNegSucc,UInt8.reduceOfNat]⟩
noncomputable def f132:ORes:=(n132 mL (Run Tryz.prog rxA) (Dcall Tryz.prog rxA) (LP Tryz.prog rxA) a0 a1 A).1
theorem r132:Run Tryz.prog rxA 132 [a0,a1] A=f132 a0.canon a1.canon A:=(qbk Tryz.prog rxA kk rfl rfl (okf rfl) _ A).trans (n132 ..).2
noncomputable def n132_0:Nf (loopB M Tryz.prog rxHint kk call dcall lp 132 [0,1,0,1] [A0] e A):=⟨_,by conv=>lhs;reduce;simp only [go_sem,Int.reduceOfNat,Int.reduceNegSucc,UInt8.reduceOfNat]⟩
theorem q132_0:LP Tryz.prog rxA 132 [0,1,0,1] [A0] e A=(n132_0 mL (Run Tryz.prog rxA) (Dcall Tryz.prog rxA) (LP Tryz.prog rxA) A A0 e).1:=(LP_eq Tryz.prog rxA kk (okf rfl) rfl e A).trans (n132_0 ..).2
noncomputable def n159:Nf (bodyR M Tryz.prog rxHint kk call dcall lp 159 [a0] A):=⟨_,by conv=>lhs;reduce;simp only [go_sem,Int.reduceOfNat,Int.reduceNegSucc,UInt8.reduceOfNat]⟩
noncomputable def f159:ORes:=(n159 mL (Run Tryz.prog rxA) (Dcall Tryz.prog rxA) (LP Tryz.prog rxA) a0 A).1
theorem r159:Run Tryz.prog rxA 159 [a0] A=f159 a0.canon A:=(qbk Tryz.prog rxA kk rfl rfl (okf rfl) _ A).trans (n159 ..).2
noncomputable def n159_0:Nf (loopB M Tryz.prog rxHint kk call dcall lp 159 [0,1,0,1,1] [A0] e A):=⟨_,by conv=>lhs;reduce;simp only [go_sem,Int.reduceOfNat,Int.reduceNegSucc,UInt8.reduceOfNat]⟩
theorem q159_0:LP Tryz.prog rxA 159 [0,1,0,1,1] [A0] e A=(n159_0 mL (Run Tryz.prog rxA) (Dcall Tryz.prog rxA) (LP Tryz.prog rxA) A A0 e).1:=(LP_eq Tryz.prog rxA kk (okf rfl) rfl e A).trans (n159_0 ..).2
noncomputable def n57:Nf (bodyR M Tryz.prog rxHint kk call dcall lp 57 [a0] A):=⟨_,by conv=>lhs;reduce;simp only [go_sem,Int.reduceOfNat,Int.reduceNegSucc,UInt8.reduceOfNat]⟩
noncomputable def f57:ORes:=(n57 mL (Run Tryz.prog rxA) (Dcall Tryz.prog rxA) (LP Tryz.prog rxA) a0 A).1
theorem r57:Run Tryz.prog rxA 57 [a0] A=f57 a0.canon A:=(qbk Tryz.prog rxA kk rfl rfl (okf rfl) _ A).trans (n57 ..).2
noncomputable def n26:Nf (bodyR M Tryz.prog rxHint kk call dcall lp 26 [a0,a1] A):=⟨_,by conv=>lhs;reduce;simp only [go_sem,Int.reduceOfNat,Int.reduceNegSucc,UInt8.reduceOfNat]⟩
noncomputable def f26:ORes:=(n26 mL (Run Tryz.prog rxA) (Dcall Tryz.prog rxA) (LP Tryz.prog rxA) a0 a1 A).1
noncomputable def n128:Nf (bodyR M Tryz.prog rxHint kk call dcall lp 128 [a0,a1] A):=⟨_,by conv=>lhs;reduce;simp only [go_sem,Int.reduceOfNat,Int.reduceNegSucc,UInt8.reduceOfNat]⟩
noncomputable def f128:ORes:=(n128 mL (Run Tryz.prog rxA) (Dcall Tryz.prog rxA) (LP Tryz.prog rxA) a0 a1 A).1
theorem r128:Run Tryz.prog rxA 128 [a0,a1] A=f128 a0.canon a1.canon A:=(qbk Tryz.prog rxA kk rfl rfl (okf rfl) _ A).trans (n128 ..).2
noncomputable def n139:Nf (bodyR M Tryz.prog rxHint kk call dcall lp 139 [a0,a1] A):=⟨_,by conv=>lhs;reduce;simp only [go_sem,Int.reduceOfNat,Int.reduceNegSucc,UInt8.reduceOfNat]⟩
noncomputable def f139:ORes:=(n139 mL (Run Tryz.prog rxA) (Dcall Tryz.prog rxA) (LP Tryz.prog rxA) a0 a1 A).1
theorem r139:Run Tryz.prog rxA 139 [a0,a1] A=f139 a0.canon a1.canon A:=(qbk Tryz.prog rxA kk rfl rfl (okf rfl) _ A).trans (n139 ..).2
end Go.Vm.Rx

namespace Go.Vm.Rx
open Go.Proofs
set_option maxRecDepth 100000
set_option maxHeartbeats 0
attribute [local irreducible] bn mp ifb D.bool? D.int? D.str? D.agg? D.cell? D.cellsT ofCells guardB layCells eqOf binO unD convO sliceStrO sliceSlO fieldAddrO fieldO indexAddrO indexStrO assertV extractD nilCheckD lenStrO lenSlO minMaxD loadO storeO boxO sliceParts makeO appendO litO tokO deferO bytesConvO panicD applyD Kept leaveD D.shut D.shutL guardP leavesD shV recBusy recSet closeSt endX seqCall seqI exS leaveM cAt cAtI D.canon D.canonL Res.elim allocO sLen sApp sTake gkM gsM gwM clM jn Env.g yldB mapGetO mapPutO mapEntryO entryStoreO mapDelO makeMapR mapLenO keyK eqKS
variable (M:Mode) (call:CallT) (dcall:DcallT) (lp:LpT) (a0 a1 a2 a3 a4:D) (A A0 A1 A2:St) (e:Env)
noncomputable def n196:Nf (bodyR M Tryz.prog rxHint kk call dcall lp 196 [a0] A):=⟨_,by conv=>lhs;reduce;simp only [go_sem,Int.reduceOfNat,Int.reduceNegSucc,UInt8.reduceOfNat]⟩
noncomputable def f196:ORes:=(n196 mL (Run Tryz.prog rxA) (Dcall Tryz.prog rxA) (LP Tryz.prog rxA) a0 A).1
noncomputable def n6:Nf (bodyR M Tryz.prog rxHint kk call dcall lp 6 [a0] A):=⟨_,by conv=>lhs;reduce;simp only [go_sem,Int.reduceOfNat,Int.reduceNegSucc,UInt8.reduceOfNat]⟩
noncomputable def f6:ORes:=(n6 mL (Run Tryz.prog rxA) (Dcall Tryz.prog rxA) (LP Tryz.prog rxA) a0 A).1
theorem r6:Run Tryz.prog rxA 6 [a0] A=f6 a0.canon A:=(qbk Tryz.prog rxA kk rfl rfl (okf rfl) _ A).trans (n6 ..).2
noncomputable def n65:Nf (bodyR M Tryz.prog rxHint kk call dcall lp 65 [a0] A):=⟨_,by conv=>lhs;reduce;simp only [go_sem,Int.reduceOfNat,Int.reduceNegSucc,UInt8.reduceOfNat]⟩
noncomputable def n65_0:Nf (loopB M Tryz.prog rxHint kk call dcall lp 65 [0,1,1] [A0] e A):=⟨_,by conv=>lhs;reduce;simp only [go_sem,Int.reduceOfNat,Int.reduceNegSucc,UInt8.reduceOfNat]⟩
noncomputable def n115:Nf (bodyR M Tryz.prog rxHint kk call dcall lp 115 [a0,a1] A):=⟨_,by conv=>lhs;reduce;simp only [go_sem,Int.reduceOfNat,Int.reduceNegSucc,UInt8.reduceOfNat]⟩
noncomputable def f115:ORes:=(n115 mL (Run Tryz.prog rxA) (Dcall Tryz.prog rxA) (LP Tryz.prog rxA) a0 a1 A).1
theorem r115:Run Tryz.prog rxA 115 [a0,a1] A=f115 a0.canon a1.canon A:=(qbk Tryz.prog rxA kk rfl rfl (okf rfl) _ A).trans (n115 ..).2
noncomputable def n115_0:Nf (loopB M Tryz.prog rxHint kk call dcall lp 115 [0,0,1,1,1,1] [A0] e A):=⟨_,by conv=>lhs;reduce;simp only [go_sem,Int.reduceOfNat,Int.reduceNegSucc,UInt8.reduceOfNat]⟩
theorem q115_0:LP Tryz.prog rxA 115 [0,0,1,1,1,1] [A0] e A=(n115_0 mL (Run Tryz.prog rxA) (Dcall Tryz.prog rxA) (LP Tryz.prog rxA) A A0 e).1:=(LP_eq Tryz.prog rxA kk (okf rfl) rfl e A).trans (n115_0 ..).2
noncomputable def n82:Nf (bodyR M Tryz.prog rxHint kk call dcall lp 82 [a0,a1,a2] A):=⟨_,by conv=>lhs;reduce;simp only [go_sem,Int.reduceOfNat,Int.reduceNegSucc,UInt8.reduceOfNat]⟩
noncomputable def f82:ORes:=(n82 mL (Run Tryz.prog rxA) (Dcall Tryz.prog rxA) (LP Tryz.prog rxA) a0 a1 a2 A).1
theorem r82:Run Tryz.prog rxA 82 [a0,a1,a2] A=f82 a0.canon a1.canon a2.canon A:=(qbk Tryz.prog rxA kk rfl rfl (okf rfl) _ A).trans (n82 ..).2
noncomputable def n82_0:Nf (loopB M Tryz.prog rxHint kk call dcall lp 82 [0,1,0,1,1,1] [A0] e A):=⟨_,by conv=>lhs;reduce;simp only [go_sem,Int.reduceOfNat,Int.reduceNegSucc,UInt8.reduceOfNat]⟩
theorem q82_0:LP Tryz.prog rxA 82 [0,1,0,1,1,1] [A0] e A=(n82_0 mL (Run Tryz.prog rxA) (Dcall Tryz.prog rxA) (LP Tryz.prog rxA) A A0 e).1:=(LP_eq Tryz.prog rxA kk (okf rfl) rfl e A).trans (n82_0 ..).2
noncomputable def n134:Nf (bodyR M Tryz.prog rxHint kk call dcall lp 134 [a0,a1] A):=⟨_,by conv=>lhs;reduce;simp only [go_sem,Int.reduceOfNat,Int.reduceNegSucc,UInt8.reduceOfNat]⟩
noncomputable def f134:ORes:=(n134 mL (Run Tryz.prog rxA) (Dcall Tryz.prog rxA) (LP Tryz.prog rxA) a0 a1 A).1
theorem r134:Run Tryz.prog rxA 134 [a0,a1] A=f134 a0 a1 A:=(qbk Tryz.prog rxA kk rfl rfl (okf rfl) _ A).trans (n134 ..).2
noncomputable def n134_0:Nf (loopB M Tryz.prog rxHint kk call dcall lp 134 [0,1,0,1,1,1] [A0] e A):=⟨_,by conv=>lhs;reduce;simp only [go_sem,Int.reduceOfNat,Int.reduceNegSucc,UInt8.reduceOfNat]⟩
theorem q134_0:LP Tryz.prog rxA 134 [0,1,0,1,1,1] [A0] e A=(n134_0 mL (Run Tryz.prog rxA) (Dcall Tryz.prog rxA) (LP Tryz.prog rxA) A A0 e).1:=(LP_eq Tryz.prog rxA kk (okf rfl) rfl e A).trans (n134_0 ..).2
noncomputable def n7:Nf (bodyR M Tryz.prog rxHint kk call dcall lp 7 [a0,a1] A):=⟨_,by conv=>lhs;reduce;simp only [go_sem,Int.reduceOfNat,Int.reduceNegSucc,UInt8.reduceOfNat]⟩
noncomputable def f7:ORes:=(n7 mL (Run Tryz.prog rxA) (Dcall Tryz.prog rxA) (LP Tryz.prog rxA) a0 a1 A).1
theorem r7:Run Tryz.prog rxA 7 [a0,a1] A=f7 a0.canon a1.canon A:=(qbk Tryz.prog rxA kk rfl rfl (okf rfl) _ A).trans (n7 ..).2
noncomputable def n111:Nf (bodyR M Tryz.prog rxHint kk call dcall lp 111 [a0] A):=⟨_,by conv=>lhs;reduce;simp only [go_sem,Int.reduceOfNat,Int.reduceNegSucc,UInt8.reduceOfNat]⟩
noncomputable def n111_0:Nf (loopB M Tryz.prog rxHint kk call dcall lp 111 [0,1,0,1,1,1] [A0] e A):=⟨_,by conv=>lhs;reduce;simp only [go_sem,Int.reduceOfNat,Int.reduceNegSucc,UInt8.reduceOfNat]⟩
noncomputable def n97:Nf (bodyR M Tryz.prog rxHint kk call dcall lp 97 [a0,a1] A):=⟨_,by conv=>lhs;reduce;simp only [go_sem,Int.reduceOfNat,Int.reduceNegSucc,UInt8.reduceOfNat]⟩
noncomputable def f97:ORes:=(n97 mL (Run Tryz.prog rxA) (Dcall Tryz.prog rxA) (LP Tryz.prog rxA) a0 a1 A).1
theorem r97:Run Tryz.prog rxA 97 [a0,a1] A=f97 a0.canon a1.canon A:=(qbk Tryz.prog rxA kk rfl rfl (okf rfl) _ A).trans (n97 ..).2
noncomputable def n97_0:Nf (loopB M Tryz.prog rxHint kk call dcall lp 97 [0,1,0,1] [A0] e A):=⟨_,by conv=>lhs;reduce;simp only [go_sem,Int.reduceOfNat,Int.reduceNegSucc,UInt8.reduceOfNat]⟩
theorem q97_0:LP Tryz.prog rxA 97 [0,1,0,1] [A0] e A=(n97_0 mL (Run Tryz.prog rxA) (Dcall Tryz.prog rxA) (LP Tryz.prog rxA) A A0 e).1:=(LP_eq Tryz.prog rxA kk (okf rfl) rfl e A).trans (n97_0 ..).2
noncomputable def n48:Nf (bodyR M Tryz.prog rxHint kk call dcall lp 48 [a0] A):=⟨_,by conv=>lhs;reduce;simp only [go_sem,Int.reduceOfNat,Int.reduceNegSucc,UInt8.reduceOfNat]⟩
noncomputable def f48:ORes:=(n48 mL (Run Tryz.prog rxA) (Dcall Tryz.prog rxA) (LP Tryz.prog rxA) a0 A).1
theorem r48:Run Tryz.prog rxA 48 [a0] A=f48 a0.canon A:=(qbk Tryz.prog rxA kk rfl rfl (okf rfl) _ A).trans (n48 ..).2
noncomputable def n48_0:Nf (loopB M Tryz.prog rxHint kk call dcall lp 48 [0,1,0,1] [A0] e A):=⟨_,by conv=>lhs;reduce;simp only [go_sem,Int.reduceOfNat,Int.reduceNegSucc,UInt8.reduceOfNat]⟩
theorem q48_0:LP Tryz.prog rxA 48 [0,1,0,1] [A0] e A=(n48_0 mL (Run Tryz.prog rxA) (Dcall Tryz.prog rxA) (LP Tryz.prog rxA) A A0 e).1:=(LP_eq Tryz.prog rxA kk (okf rfl) rfl e A).trans (n48_0 ..).2
noncomputable def n117:Nf (bodyR M Tryz.prog rxHint kk call dcall lp 117 [a0] A):=⟨_,by conv=>lhs;reduce;simp only [go_sem,Int.reduceOfNat,Int.reduceNegSucc,UInt8.reduceOfNat]⟩
noncomputable def f117:ORes:=(n117 mL (Run Tryz.prog rxA) (Dcall Tryz.prog rxA) (LP Tryz.prog rxA) a0 A).1
noncomputable def n78:Nf (bodyR M Tryz.prog rxHint kk call dcall lp 78 [a0] A):=⟨_,by conv=>lhs;reduce;simp only [go_sem,Int.reduceOfNat,Int.reduceNegSucc,UInt8.reduceOfNat]⟩
noncomputable def f78:ORes:=(n78 mL (Run Tryz.prog rxA) (Dcall Tryz.prog rxA) (LP Tryz.prog rxA) a0 A).1
theorem r78:Run Tryz.prog rxA 78 [a0] A=f78 a0.canon A:=(qbk Tryz.prog rxA kk rfl rfl (okf rfl) _ A).trans (n78 ..).2
noncomputable def n58:Nf (bodyR M Tryz.prog rxHint kk call dcall lp 58 [a0,a1] A):=⟨_,by conv=>lhs;reduce;simp only [go_sem,Int.reduceOfNat,Int.reduceNegSucc,UInt8.reduceOfNat]⟩
noncomputable def f58:ORes:=(n58 mL (Run Tryz.prog rxA) (Dcall Tryz.prog rxA) (LP Tryz.prog rxA) a0 a1 A).1
theorem r58:Run Tryz.prog rxA 58 [a0,a1] A=f58 a0.canon a1.canon A:=(qbk Tryz.prog rxA kk rfl rfl (okf rfl) _ A).trans (n58 ..).2
noncomputable def n58_0:Nf (loopB M Tryz.prog rxHint kk call dcall lp 58 [0,1,0,1] [A0] e A):=⟨_,by conv=>lhs;reduce;simp only [go_sem,Int.reduceOfNat,Int.reduceNegSucc,UInt8.reduceOfNat]⟩
theorem q58_0:LP Tryz.prog rxA 58 [0,1,0,1] [A0] e A=(n58_0 mL (Run Tryz.prog rxA) (Dcall Tryz.prog rxA) (LP Tryz.prog rxA) A A0 e).1:=(LP_eq Tryz.prog rxA kk (okf rfl) rfl e A).trans (n58_0 ..).2
noncomputable def n37:Nf (bodyR M Tryz.prog rxHint kk call dcall lp 37 [a0] A):=⟨_,by conv=>lhs;reduce;simp only [go_sem,Int.reduceOfNat,Int.reduceNegSucc,UInt8.reduceOfNat]⟩
noncomputable def f37:ORes:=(n37 mL (Run Tryz.prog rxA) (Dcall Tryz.prog rxA) (LP Tryz.prog rxA) a0 A).1
theorem r37:Run Tryz.prog rxA 37 [a0] A=f37 a0.canon A:=(qbk Tryz.prog rxA kk rfl rfl (okf rfl) _ A).trans (n37 ..).2
noncomputable def n19:Nf (bodyR M Tryz.prog rxHint kk call dcall lp 19 [a0] A):=⟨_,by conv=>lhs;reduce;simp only [go_sem,Int.reduceOfNat,Int.reduceNegSucc,UInt8.reduceOfNat]⟩
noncomputable def f19:ORes:=(n19 mL (Run Tryz.prog rxA) (Dcall Tryz.prog rxA) (LP Tryz.prog rxA) a0 A).1
theorem r19:Run Tryz.prog rxA 19 [a0] A=f19 a0.canon A:=(qbk Tryz.prog rxA kk rfl rfl (okf rfl) _ A).trans (n19 ..).2
noncomputable def n136:Nf (bodyR M Tryz.prog rxHint kk call dcall lp 136 [a0] A):=⟨_,by conv=>lhs;reduce;simp only [go_sem,Int.reduceOfNat,Int.reduceNegSucc,UInt8.reduceOfNat]⟩
noncomputable def n168:Nf (bodyR M Tryz.prog rxHint kk call dcall lp 168 [a0,a1] A):=⟨_,by conv=>lhs;reduce;simp only [go_sem,Int.reduceOfNat,Int.reduceNegSucc,UInt8.reduceOfNat]⟩
noncomputable def f168:ORes:=(n168 mL (Run Tryz.prog rxA) (Dcall Tryz.prog rxA) (LP Tryz.prog rxA) a0 a1 A).1
theorem r168:Run Tryz.prog rxA 168 [a0,a1] A=f168 a0.canon a1.canon A:=(qbk Tryz.prog rxA kk rfl rfl (okf rfl) _ A).trans (n168 ..).2
noncomputable def n148:Nf (bodyR M Tryz.prog rxHint kk call dcall lp 148 [a0] A):=⟨_,by conv=>lhs;reduce;simp only [go_sem,Int.reduceOfNat,Int.reduceNegSucc,UInt8.reduceOfNat]⟩
noncomputable def f148:ORes:=(n148 mL (Run Tryz.prog rxA) (Dcall Tryz.prog rxA) (LP Tryz.prog rxA) a0 A).1
theorem r148:Run Tryz.prog rxA 148 [a0] A=f148 a0.canon A:=(qbk Tryz.prog rxA kk rfl rfl (okf rfl) _ A).trans (n148 ..).2
noncomputable def n124:Nf (bodyR M Tryz.prog rxHint kk call dcall lp 124 [a0] A):=⟨_,by conv=>lhs;reduce;simp only [go_sem,Int.reduceOfNat,Int.reduceNegSucc,UInt8.reduceOfNat]⟩
noncomputable def f124:ORes:=(n124 mL (Run Tryz.prog rxA) (Dcall Tryz.prog rxA) (LP Tryz.prog rxA) a0 A).1
theorem r124:Run Tryz.prog rxA 124 [a0] A=f124 a0.canon A:=(qbk Tryz.prog rxA kk rfl rfl (okf rfl) _ A).trans (n124 ..).2
noncomputable def n27:Nf (bodyR M Tryz.prog rxHint kk call dcall lp 27 [a0,a1] A):=⟨_,by conv=>lhs;reduce;simp only [go_sem,Int.reduceOfNat,Int.reduceNegSucc,UInt8.reduceOfNat]⟩
noncomputable def n43:Nf (bodyR M Tryz.prog rxHint kk call dcall lp 43 [a0] A):=⟨_,by conv=>lhs;reduce;simp only [go_sem,Int.reduceOfNat,Int.reduceNegSucc,UInt8.reduceOfNat]⟩
noncomputable def f43:ORes:=(n43 mL (Run Tryz.prog rxA) (Dcall Tryz.prog rxA) (LP Tryz.prog rxA) a0 A).1
theorem r43:Run Tryz.prog rxA 43 [a0] A=f43 a0.canon A:=(qbk Tryz.prog rxA kk rfl rfl (okf rfl) _ A).trans (n43 ..).2
noncomputable def n140:Nf (bodyR M Tryz.prog rxHint kk call dcall lp 140 [a0,a1] A):=⟨_,by conv=>lhs;reduce;simp only [go_sem,Int.reduceOfNat,Int.reduceNegSucc,UInt8.reduceOfNat]⟩
noncomputable def f140:ORes:=(n140 mL (Run Tryz.prog rxA) (Dcall Tryz.prog rxA) (LP Tryz.prog rxA) a0 a1 A).1
theorem r140:Run Tryz.prog rxA 140 [a0,a1] A=f140 a0.canon a1.canon A:=(qbk Tryz.prog rxA kk rfl rfl (okf rfl) _ A).trans (n140 ..).2
end Go.Vm.Rx
