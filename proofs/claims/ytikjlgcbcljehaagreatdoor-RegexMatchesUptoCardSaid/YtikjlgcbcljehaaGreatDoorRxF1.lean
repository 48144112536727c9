/- Written by a program: what the abstract run of each function comes to, one definition a function, and its equation. -/
import Derived.Test.YtikjlgcbcljehaaGreatDoorRxH
import Derived.KernelRfl
set_option linter.all false
namespace Go.Vm.Rx
open Go.Proofs
set_option maxRecDepth 100000
set_option linter.unusedVariables false
set_option maxHeartbeats 0
noncomputable def f4 (M : Mode) (call : CallT) (dcall : DcallT) (a0 : D) (A : St) : (Option (Res × St)) :=
(bn (lenSlO a0) fun x0 =>
(bn (binO .gtr 3 true x0 (n64 30)) fun x1 =>
(bn (D.bool? x1) fun x2 =>
(ifb x2 (bn (sliceSlO 2 a0 none (some (n64 30)) none) fun x3 =>
(leaveM M RetK.can A (Res.ret x3) A))
(leaveM M RetK.can A (Res.ret a0) A)))))
theorem b4 (M : Mode) (call : CallT) (dcall : DcallT) (a0 : D) (A : St) : bodyN M Tryz.prog rxHint kk call dcall 4 [a0] A = f4 M call dcall a0.canon A := by
  kernel_rfl
theorem r4 (a0 : D) (A : St) : Run Tryz.prog rxA 4 [a0] A = f4 mL (Run Tryz.prog rxA) (Dcall Tryz.prog rxA) a0.canon A := (Run_eqN Tryz.prog rxA kk rfl rfl _ _).trans (b4 mL (Run Tryz.prog rxA) (Dcall Tryz.prog rxA) a0 A)
noncomputable def f5 (M : Mode) (call : CallT) (dcall : DcallT) (a0 : D) (a1 : D) (A : St) : (Option (Res × St)) :=
(bn (boxO true a0 A) fun x0 =>
(bn (mp (loadO true 3 x0.1 x0.2) fun x1 => (x1, x0.2)) fun x1 =>
(bn (call 11 [x1.1] x1.2) fun x2 =>
(Res.elim x2.1 (fun x3 => (bn (binO .neq 3 true x3 (n64 0)) fun x4 =>
(bn (D.bool? x4) fun x5 =>
(ifb x5 (leaveM M RetK.can A (Res.ret (D.tup [(D.bool false), x3])) x2.2)
(bn (mp (loadO true 3 x0.1 x2.2) fun x6 => (x6, x2.2)) fun x6 =>
(bn (call 12 [x6.1, a1] x6.2) fun x7 =>
(Res.elim x7.1 (fun x8 => (bn (indexAddrO 1 false x8 (n64 0)) fun x9 =>
(bn (mp (loadO false 1 x9 x7.2) fun x10 => (x10, x7.2)) fun x10 =>
(bn (lenSlO a1) fun x11 =>
(bn (indexAddrO 1 false x10.1 x11) fun x12 =>
(bn (mp (loadO false 1 x12 x10.2) fun x13 => (x13, x10.2)) fun x13 =>
(leaveM M RetK.can A (Res.ret (D.tup [x13.1, (n64 0)])) x13.2))))))) (fun x8 => (leaveM M RetK.can A (Res.pan x8) x7.2))))))))) (fun x3 => (leaveM M RetK.can A (Res.pan x3) x2.2))))))
theorem b5 (M : Mode) (call : CallT) (dcall : DcallT) (a0 a1 : D) (A : St) : bodyN M Tryz.prog rxHint kk call dcall 5 [a0, a1] A = f5 M call dcall a0.canon a1.canon A := by
  kernel_rfl
theorem r5 (a0 a1 : D) (A : St) : Run Tryz.prog rxA 5 [a0, a1] A = f5 mL (Run Tryz.prog rxA) (Dcall Tryz.prog rxA) a0.canon a1.canon A := (Run_eqN Tryz.prog rxA kk rfl rfl _ _).trans (b5 mL (Run Tryz.prog rxA) (Dcall Tryz.prog rxA) a0 a1 A)
noncomputable def f6 (M : Mode) (call : CallT) (dcall : DcallT) (a0 : D) (a1 : D) (A : St) : (Option (Res × St)) :=
(bn (boxO true a0 A) fun x0 =>
(bn (mp (loadO true 3 x0.1 x0.2) fun x1 => (x1, x0.2)) fun x1 =>
(bn (call 13 [x1.1] x1.2) fun x2 =>
(Res.elim x2.1 (fun x3 => (bn (binO .neq 3 true x3 (n64 0)) fun x4 =>
(bn (D.bool? x4) fun x5 =>
(ifb x5 (leaveM M RetK.can A (Res.ret (D.tup [(D.bool false), x3])) x2.2)
(bn (mp (loadO true 3 x0.1 x2.2) fun x6 => (x6, x2.2)) fun x6 =>
(bn (call 14 [x6.1, a1] x6.2) fun x7 =>
(Res.elim x7.1 (fun x8 => (bn (indexAddrO 1 false x8 (n64 0)) fun x9 =>
(bn (mp (loadO false 1 x9 x7.2) fun x10 => (x10, x7.2)) fun x10 =>
(bn (lenSlO a1) fun x11 =>
(bn (indexAddrO 1 false x10.1 x11) fun x12 =>
(bn (mp (loadO false 1 x12 x10.2) fun x13 => (x13, x10.2)) fun x13 =>
(leaveM M RetK.can A (Res.ret (D.tup [x13.1, (n64 0)])) x13.2))))))) (fun x8 => (leaveM M RetK.can A (Res.pan x8) x7.2))))))))) (fun x3 => (leaveM M RetK.can A (Res.pan x3) x2.2))))))
theorem b6 (M : Mode) (call : CallT) (dcall : DcallT) (a0 a1 : D) (A : St) : bodyN M Tryz.prog rxHint kk call dcall 6 [a0, a1] A = f6 M call dcall a0.canon a1.canon A := by
  kernel_rfl
theorem r6 (a0 a1 : D) (A : St) : Run Tryz.prog rxA 6 [a0, a1] A = f6 mL (Run Tryz.prog rxA) (Dcall Tryz.prog rxA) a0.canon a1.canon A := (Run_eqN Tryz.prog rxA kk rfl rfl _ _).trans (b6 mL (Run Tryz.prog rxA) (Dcall Tryz.prog rxA) a0 a1 A)
noncomputable def f7 (M : Mode) (call : CallT) (dcall : DcallT) (a0 : D) (A : St) : (Option (Res × St)) :=
(bn (boxO true a0 A) fun x0 =>
(bn (mp (loadO true 3 x0.1 x0.2) fun x1 => (x1, x0.2)) fun x1 =>
(bn (call 11 [x1.1] x1.2) fun x2 =>
(Res.elim x2.1 (fun x3 => (bn (binO .neq 3 true x3 (n64 0)) fun x4 =>
(bn (D.bool? x4) fun x5 =>
(ifb x5 (leaveM M RetK.can A (Res.ret (D.tup [(D.sl Own.full 0 []), (D.sl Own.full 0 []), x3])) x2.2)
(bn (mp (mp (loadO true 3 x0.1 x2.2) fun x6 => (x6, x2.2)) fun x6 => x6.1) fun x6 =>
(bn (call 15 [x6, (n64 1)] x2.2) fun x7 =>
(Res.elim x7.1 (fun x8 => (bn (mp (mp (loadO true 3 x0.1 x7.2) fun x9 => (x9, x7.2)) fun x9 => x9.1) fun x9 =>
(bn (call 15 [x9, (n64 2)] x7.2) fun x10 =>
(Res.elim x10.1 (fun x11 => (@Mode.gs M (Res × St) ((sameAd x0.1 x2.2 x7.2) ∧ True) (Bool.and (sameAdB x0.1 x2.2 x7.2) true) (leaveM M RetK.can A (Res.ret (D.tup [x8, x11, (n64 0)])) x10.2))) (fun x11 => (@Mode.gs M (Res × St) ((sameAd x0.1 x2.2 x7.2) ∧ True) (Bool.and (sameAdB x0.1 x2.2 x7.2) true) (leaveM M RetK.can A (Res.pan x11) x10.2))))))) (fun x8 => none)))))))) (fun x3 => (leaveM M RetK.can A (Res.pan x3) x2.2))))))
theorem b7 (M : Mode) (call : CallT) (dcall : DcallT) (a0 : D) (A : St) : bodyN M Tryz.prog rxHint kk call dcall 7 [a0] A = f7 M call dcall a0.canon A := by
  kernel_rfl
theorem r7 (a0 : D) (A : St) : Run Tryz.prog rxA 7 [a0] A = f7 mL (Run Tryz.prog rxA) (Dcall Tryz.prog rxA) a0.canon A := (Run_eqN Tryz.prog rxA kk rfl rfl _ _).trans (b7 mL (Run Tryz.prog rxA) (Dcall Tryz.prog rxA) a0 A)
noncomputable def f8 (M : Mode) (call : CallT) (dcall : DcallT) (a0 : D) (A : St) : (Option (Res × St)) :=
(bn (boxO true a0 A) fun x0 =>
(bn (mp (loadO true 3 x0.1 x0.2) fun x1 => (x1, x0.2)) fun x1 =>
(bn (call 13 [x1.1] x1.2) fun x2 =>
(Res.elim x2.1 (fun x3 => (bn (binO .neq 3 true x3 (n64 0)) fun x4 =>
(bn (D.bool? x4) fun x5 =>
(ifb x5 (leaveM M RetK.can A (Res.ret (D.tup [(D.sl Own.full 0 []), (D.sl Own.full 0 []), x3])) x2.2)
(bn (mp (mp (loadO true 3 x0.1 x2.2) fun x6 => (x6, x2.2)) fun x6 => x6.1) fun x6 =>
(bn (call 16 [x6, (n64 1), (D.sl Own.full 0 [])] x2.2) fun x7 =>
(Res.elim x7.1 (fun x8 => (bn (mp (mp (loadO true 3 x0.1 x7.2) fun x9 => (x9, x7.2)) fun x9 => x9.1) fun x9 =>
(bn (call 16 [x9, (n64 2), (D.sl Own.full 0 [])] x7.2) fun x10 =>
(Res.elim x10.1 (fun x11 => (@Mode.gs M (Res × St) ((sameAd x0.1 x2.2 x7.2) ∧ True) (Bool.and (sameAdB x0.1 x2.2 x7.2) true) (leaveM M RetK.can A (Res.ret (D.tup [x8, x11, (n64 0)])) x10.2))) (fun x11 => (@Mode.gs M (Res × St) ((sameAd x0.1 x2.2 x7.2) ∧ True) (Bool.and (sameAdB x0.1 x2.2 x7.2) true) (leaveM M RetK.can A (Res.pan x11) x10.2))))))) (fun x8 => none)))))))) (fun x3 => (leaveM M RetK.can A (Res.pan x3) x2.2))))))
theorem b8 (M : Mode) (call : CallT) (dcall : DcallT) (a0 : D) (A : St) : bodyN M Tryz.prog rxHint kk call dcall 8 [a0] A = f8 M call dcall a0.canon A := by
  kernel_rfl
theorem r8 (a0 : D) (A : St) : Run Tryz.prog rxA 8 [a0] A = f8 mL (Run Tryz.prog rxA) (Dcall Tryz.prog rxA) a0.canon A := (Run_eqN Tryz.prog rxA kk rfl rfl _ _).trans (b8 mL (Run Tryz.prog rxA) (Dcall Tryz.prog rxA) a0 A)
noncomputable def f9_s0 (M : Mode) (call : CallT) (dcall : DcallT) (A : St) (e : Env) (Av5 : St) : (Option ((Env × St) ⊕ (Res × St))) :=
(bn (lenSlO (e.g 0)) fun x0 =>
(bn (binO .lss 3 false (e.g 5) x0) fun x1 =>
(bn (D.bool? x1) fun x2 =>
(ifb x2 (bn (indexAddrO 1 false (e.g 0) (e.g 5)) fun x3 =>
(bn (mp (mp (loadO false 1 x3 Av5) fun x4 => (x4, Av5)) fun x4 => x4.1) fun x4 =>
(bn (indexAddrO 1 false (e.g 1) (e.g 5)) fun x5 =>
(bn (mp (mp (loadO false 1 x5 Av5) fun x6 => (x6, Av5)) fun x6 => x6.1) fun x6 =>
(bn (binO .neq 3 false x4 x6) fun x7 =>
(@Mode.gs M ((Env × St) ⊕ (Res × St)) True true (bn (D.bool? x7) fun x8 =>
(ifb x8 (Option.map (Sum.inr ) (bn (leavesD dcall (fun (x9 : St) => (some (D.bool false))) (e).df none Av5) fun x9 =>
(leaveM M RetK.can A x9.1 x9.2)))
(bn (binO .add 3 true (e.g 5) (n64 1)) fun x9 =>
(@Mode.gk M ((Env × St) ⊕ (Res × St)) Av5 Av5 (some (Sum.inl ((Env.mk (sp [(0, (D.shut (List.length Av5) (e.g 0))), (0, (D.shut (List.length Av5) (e.g 1))), (3, (D.shut (List.length Av5) x9))] 20) (List.map (fun (x10 : (D × (List D))) => ((D.shut (List.length Av5) x10.1), (D.shutL (List.length Av5) x10.2))) (e).df)), (List.take (List.length Av5) Av5))))))))))))))
(Option.map (Sum.inr ) (bn (leavesD dcall (fun (x3 : St) => (some (D.bool true))) (e).df none Av5) fun x3 =>
(leaveM M RetK.can A x3.1 x3.2)))))))
noncomputable def f9 (M : Mode) (call : CallT) (dcall : DcallT) (a0 : D) (a1 : D) (A : St) : (Option (Res × St)) :=
(bn (lenSlO a0) fun x0 =>
(bn (lenSlO a1) fun x1 =>
(bn (binO .neq 3 false x0 x1) fun x2 =>
(bn (D.bool? x2) fun x3 =>
(ifb x3 (leaveM M RetK.can A (Res.ret (D.bool false)) A)
(@Mode.it M (Res × St) (f9_s0 M call dcall A) (Env.mk (sp [(0, a0), (0, a1), (3, (n64 0))] 20) []) A))))))
theorem b9 (M : Mode) (call : CallT) (dcall : DcallT) (a0 a1 : D) (A : St) : bodyN M Tryz.prog rxHint kk call dcall 9 [a0, a1] A = f9 M call dcall a0.canon a1.canon A := by
  kernel_rfl
theorem r9 (a0 a1 : D) (A : St) : Run Tryz.prog rxA 9 [a0, a1] A = f9 mL (Run Tryz.prog rxA) (Dcall Tryz.prog rxA) a0.canon a1.canon A := (Run_eqN Tryz.prog rxA kk rfl rfl _ _).trans (b9 mL (Run Tryz.prog rxA) (Dcall Tryz.prog rxA) a0 a1 A)
noncomputable def f10 (M : Mode) (call : CallT) (dcall : DcallT) (A : St) : (Option (Res × St)) :=
(bn (call 17 [(D.str [(97 : UInt8), (46 : UInt8), (42 : UInt8), (36 : UInt8), (99 : UInt8), (111 : UInt8), (114 : UInt8), (101 : UInt8), (40 : UInt8), (98 : UInt8), (124 : UInt8), (99 : UInt8), (41 : UInt8), (43 : UInt8)])] A) fun x0 =>
(Res.elim x0.1 (fun x1 => (bn (extractD x1 0) fun x2 =>
(bn (extractD x1 1) fun x3 =>
(bn (extractD x1 2) fun x4 =>
(bn (extractD x1 3) fun x5 =>
(bn (allocO [(n64 0), (D.str []), (D.sl Own.full 0 [])] x0.2) fun x6 =>
(bn (mp (storeO true 3 x6.1 x2 x6.2) fun x7 => ((D.tup []), x7)) fun x7 =>
(bn (binO .neq 3 true x5 (n64 0)) fun x8 =>
(bn (guardB false x8) fun x9 =>
(bn (ifb x9 (fieldAddrO 2 x6.1)
(some (D.tup []))) fun x10 =>
(bn (guardB false x8) fun x11 =>
(bn (ifb x11 (mp (loadO false 1 x10 x7.2) fun x12 => (x12, x7.2))
(some ((D.tup []), x7.2))) fun x12 =>
(bn (guardB false x8) fun x13 =>
(bn (ifb x13 (lenSlO x12.1)
(some (D.tup []))) fun x14 =>
(bn (guardB false x8) fun x15 =>
(bn (ifb x15 (binO .neq 3 true x14 (n64 4))
(some (D.tup []))) fun x16 =>
(bn (mp (D.bool? x8) fun x17 => (ifb x17 (D.bool true)
 x16)) fun x17 =>
(bn (D.bool? x17) fun x18 =>
(ifb x18 (leaveM M RetK.can A (Res.ret (D.bool false)) x12.2)
(bn (mp (loadO true 3 x6.1 x12.2) fun x19 => (x19, x12.2)) fun x19 =>
(bn (call 18 [x19.1] x19.2) fun x20 =>
(Res.elim x20.1 (fun x21 => (bn (extractD x21 0) fun x22 =>
(bn (extractD x21 1) fun x23 =>
(bn (mp (loadO true 3 x6.1 x20.2) fun x24 => (x24, x20.2)) fun x24 =>
(bn (mp (Option.map (D.sl Own.full 1) (sliceParts 1 false 0 [(0, (D.str [(99 : UInt8), (111 : UInt8), (114 : UInt8), (101 : UInt8)]))])) fun x25 => (x25, x24.2)) fun x25 =>
(bn (Option.map D.agg (Option.bind (layCells false 1 0 [(D.str []), (D.sl Own.full 0 [])] (D.str [(113 : UInt8)])) (fun (x26 : (List D)) => (Option.bind (layCells false 1 1 x26 x25.1) (fun (x27 : (List D)) => (some x27)))))) fun x26 =>
(bn (mp (Option.map (D.sl Own.full 2) (sliceParts 2 true 0 [(0, (D.agg [(D.str [(97 : UInt8)]), (D.sl Own.full 0 [])])), (1, x26), (2, (D.agg [(D.str [(99 : UInt8)]), (D.sl Own.full 0 [])]))])) fun x27 => (x27, x25.2)) fun x27 =>
(bn (call 5 [x24.1, x27.1] x27.2) fun x28 =>
(Res.elim x28.1 (fun x29 => (bn (extractD x29 0) fun x30 =>
(bn (extractD x29 1) fun x31 =>
(bn (mp (loadO true 3 x6.1 x28.2) fun x32 => (x32, x28.2)) fun x32 =>
(bn (mp (Option.map (D.sl Own.full 2) (sliceParts 2 true 0 [(0, (D.agg [(D.str [(97 : UInt8)]), (D.sl Own.full 0 [])])), (1, (D.agg [(D.str [(99 : UInt8)]), (D.sl Own.full 0 [])]))])) fun x33 => (x33, x32.2)) fun x33 =>
(bn (call 5 [x32.1, x33.1] x33.2) fun x34 =>
(Res.elim x34.1 (fun x35 => (bn (extractD x35 0) fun x36 =>
(bn (extractD x35 1) fun x37 =>
(bn (binO .eql 3 true x23 (n64 0)) fun x38 =>
(bn (guardB true x38) fun x39 =>
(bn (ifb x39 (some x31)
(some (D.tup []))) fun x40 =>
(bn (guardB true x38) fun x41 =>
(bn (ifb x41 (binO .eql 3 true x40 (n64 0))
(some (D.tup []))) fun x42 =>
(bn (mp (D.bool? x38) fun x43 => (ifb x43 x42
(D.bool false))) fun x43 =>
(bn (guardB true x43) fun x44 =>
(bn (ifb x44 (some x37)
(some (D.tup []))) fun x45 =>
(bn (guardB true x43) fun x46 =>
(bn (ifb x46 (binO .eql 3 true x45 (n64 0))
(some (D.tup []))) fun x47 =>
(bn (mp (D.bool? x43) fun x48 => (ifb x48 x47
(D.bool false))) fun x48 =>
(bn (guardB true x48) fun x49 =>
(bn (ifb x49 (some x22)
(some (D.tup []))) fun x50 =>
(bn (guardB true x48) fun x51 =>
(bn (ifb x51 (binO .eql 3 true x50 (D.str [(97 : UInt8), (46 : UInt8), (42 : UInt8), (36 : UInt8), (99 : UInt8), (111 : UInt8), (114 : UInt8), (101 : UInt8), (40 : UInt8), (98 : UInt8), (124 : UInt8), (99 : UInt8), (41 : UInt8), (43 : UInt8)]))
(some (D.tup []))) fun x52 =>
(bn (mp (D.bool? x48) fun x53 => (ifb x53 x52
(D.bool false))) fun x53 =>
(bn (guardB true x53) fun x54 =>
(bn (ifb x54 (some x30)
(some (D.tup []))) fun x55 =>
(bn (mp (D.bool? x53) fun x56 => (ifb x56 x55
(D.bool false))) fun x56 =>
(bn (guardB true x56) fun x57 =>
(bn (ifb x57 (some x36)
(some (D.tup []))) fun x58 =>
(bn (guardB true x56) fun x59 =>
(bn (ifb x59 (unD UnOp.not x58)
(some (D.tup []))) fun x60 =>
(bn (mp (D.bool? x56) fun x61 => (ifb x61 x60
(D.bool false))) fun x61 =>
(leaveM M RetK.can A (Res.ret x61) x34.2)))))))))))))))))))))))))))) (fun x35 => (leaveM M RetK.can A (Res.pan x35) x34.2))))))))) (fun x29 => (leaveM M RetK.can A (Res.pan x29) x28.2))))))))))) (fun x21 => (leaveM M RetK.can A (Res.pan x21) x20.2)))))))))))))))))))))))) (fun x1 => (leaveM M RetK.can A (Res.pan x1) x0.2))))
theorem b10 (M : Mode) (call : CallT) (dcall : DcallT) (A : St) : bodyN M Tryz.prog rxHint kk call dcall 10 [] A = f10 M call dcall  A := by
  kernel_rfl
noncomputable def f11 (M : Mode) (call : CallT) (dcall : DcallT) (a0 : D) (A : St) : (Option (Res × St)) :=
(bn (boxO true a0 A) fun x0 =>
(bn (mp (loadO true 3 x0.1 x0.2) fun x1 => (x1, x0.2)) fun x1 =>
(bn (call 19 [x1.1, (n64 1000)] x1.2) fun x2 =>
(Res.elim x2.1 (fun x3 => (bn (binO .lss 3 true x3 (n64 0)) fun x4 =>
(bn (D.bool? x4) fun x5 =>
(ifb x5 (leaveM M RetK.can A (Res.ret (n64 3)) x2.2)
(bn (mp (loadO true 3 x0.1 x2.2) fun x6 => (x6, x2.2)) fun x6 =>
(bn (call 20 [x6.1, (n64 1000), (n64 100)] x6.2) fun x7 =>
(Res.elim x7.1 (fun x8 => (bn (extractD x8 0) fun x9 =>
(bn (extractD x8 1) fun x10 =>
(bn (extractD x8 2) fun x11 =>
(bn (unD UnOp.not x11) fun x12 =>
(bn (D.bool? x12) fun x13 =>
(ifb x13 (leaveM M RetK.can A (Res.ret (n64 91)) x7.2)
(bn (mp (loadO true 3 x0.1 x7.2) fun x14 => (x14, x7.2)) fun x14 =>
(bn (call 21 [x14.1] x14.2) fun x15 =>
(Res.elim x15.1 (fun x16 => (bn (unD UnOp.not x16) fun x17 =>
(bn (D.bool? x17) fun x18 =>
(ifb x18 (leaveM M RetK.can A (Res.ret (n64 92)) x15.2)
(leaveM M RetK.can A (Res.ret (n64 0)) x15.2))))) (fun x16 => (leaveM M RetK.can A (Res.pan x16) x15.2)))))))))))) (fun x8 => (leaveM M RetK.can A (Res.pan x8) x7.2))))))))) (fun x3 => (leaveM M RetK.can A (Res.pan x3) x2.2))))))
theorem b11 (M : Mode) (call : CallT) (dcall : DcallT) (a0 : D) (A : St) : bodyN M Tryz.prog rxHint kk call dcall 11 [a0] A = f11 M call dcall a0.canon A := by
  kernel_rfl
theorem r11 (a0 : D) (A : St) : Run Tryz.prog rxA 11 [a0] A = f11 mL (Run Tryz.prog rxA) (Dcall Tryz.prog rxA) a0.canon A := (Run_eqN Tryz.prog rxA kk rfl rfl _ _).trans (b11 mL (Run Tryz.prog rxA) (Dcall Tryz.prog rxA) a0 A)
noncomputable def f12_s0 (M : Mode) (call : CallT) (dcall : DcallT) (A : St) (e : Env) (Av5 : St) : (Option ((Env × St) ⊕ (Res × St))) :=
(bn (binO .lss 3 false (e.g 70) (e.g 69)) fun x0 =>
(bn (D.bool? x0) fun x1 =>
(ifb x1 (bn (indexAddrO 3 true (e.g 68) (e.g 70)) fun x2 =>
(bn (mp (loadO true 3 x2 Av5) fun x3 => (x3, Av5)) fun x3 =>
(bn (allocO [(n64 0), (D.str []), (D.sl Own.full 0 [])] x3.2) fun x4 =>
(bn (mp (storeO true 3 x4.1 x3.1 x4.2) fun x5 => ((D.tup []), x5)) fun x5 =>
(bn (mp (loadO true 3 x4.1 x5.2) fun x6 => (x6, x5.2)) fun x6 =>
(bn (call 12 [x6.1, (e.g 1)] x6.2) fun x7 =>
(Res.elim x7.1 (fun x8 => (bn (fieldAddrO 0 (e.g 2)) fun x9 =>
(bn (mp (loadO false 1 x9 x7.2) fun x10 => (x10, x7.2)) fun x10 =>
(bn (binO .eql 3 true x10.1 (n64 4)) fun x11 =>
(bn (D.bool? x11) fun x12 =>
(bn (ifb x12 (bn (call 25 [(e.g 5), x8] x10.2) fun x13 =>
(Res.elim x13.1 (fun x14 => (some (Sum.inl ((Env.mk (sp [(1, (e.g 1)), (0, (e.g 2)), (2, x14), (62, (e.g 68)), (0, (e.g 69)), (0, (e.g 70))] 39) (e).df), x13.2)))) (fun x14 => (Option.map (Sum.inr ) (Option.map (Sum.inr ) (bn (leavesD dcall (fun (x15 : St) => (some (e.g 4))) (e).df (some x14) x13.2) fun x15 =>
(leaveM M RetK.keep A x15.1 x15.2)))))))
(bn (binO .eql 3 true x10.1 (n64 5)) fun x13 =>
(bn (D.bool? x13) fun x14 =>
(bn (ifb x14 (bn (call 26 [(e.g 5), x8] x10.2) fun x15 =>
(Res.elim x15.1 (fun x16 => (some (Sum.inl ((Env.mk (sp [(1, (e.g 1)), (0, (e.g 2)), (2, x16), (62, (e.g 68)), (0, (e.g 69)), (0, (e.g 70))] 39) (e).df), x15.2)))) (fun x16 => (Option.map (Sum.inr ) (Option.map (Sum.inr ) (Option.map (Sum.inr ) (bn (leavesD dcall (fun (x17 : St) => (some (e.g 4))) (e).df (some x16) x15.2) fun x17 =>
(leaveM M RetK.keep A x17.1 x17.2))))))))
(bn (binO .eql 3 true x10.1 (n64 8)) fun x15 =>
(bn (D.bool? x15) fun x16 =>
(bn (ifb x16 (bn (lenSlO (e.g 1)) fun x17 =>
(bn (call 24 [x17] x10.2) fun x18 =>
(Res.elim x18.1 (fun x19 => (bn (call 26 [x19, x8] x18.2) fun x20 =>
(Res.elim x20.1 (fun x21 => (some (Sum.inl ((Env.mk (sp [(1, (e.g 1)), (0, (e.g 2)), (2, x21), (62, (e.g 68)), (0, (e.g 69)), (0, (e.g 70))] 39) (e).df), x20.2)))) (fun x21 => (Option.map (Sum.inr ) (Option.map (Sum.inr ) (Option.map (Sum.inr ) (Option.map (Sum.inr ) (bn (leavesD dcall (fun (x22 : St) => (some (e.g 4))) (e).df (some x21) x20.2) fun x22 =>
(leaveM M RetK.keep A x22.1 x22.2)))))))))) (fun x19 => (Option.map (Sum.inr ) (Option.map (Sum.inr ) (Option.map (Sum.inr ) (Option.map (Sum.inr ) (bn (leavesD dcall (fun (x20 : St) => (some (e.g 4))) (e).df (some x19) x18.2) fun x20 =>
(leaveM M RetK.keep A x20.1 x20.2))))))))))
(bn (binO .eql 3 true x10.1 (n64 7)) fun x17 =>
(bn (D.bool? x17) fun x18 =>
(bn (ifb x18 (bn (call 27 [x8] x10.2) fun x19 =>
(Res.elim x19.1 (fun x20 => (some (Sum.inl ((Env.mk (sp [(1, (e.g 1)), (0, (e.g 2)), (2, x20), (62, (e.g 68)), (0, (e.g 69)), (0, (e.g 70))] 39) (e).df), x19.2)))) (fun x20 => (Option.map (Sum.inr ) (Option.map (Sum.inr ) (Option.map (Sum.inr ) (Option.map (Sum.inr ) (Option.map (Sum.inr ) (bn (leavesD dcall (fun (x21 : St) => (some (e.g 4))) (e).df (some x20) x19.2) fun x21 =>
(leaveM M RetK.keep A x21.1 x21.2))))))))))
(bn (binO .eql 3 true x10.1 (n64 6)) fun x19 =>
(bn (D.bool? x19) fun x20 =>
(bn (ifb x20 (bn (lenSlO (e.g 1)) fun x21 =>
(bn (call 24 [x21] x10.2) fun x22 =>
(Res.elim x22.1 (fun x23 => (bn (call 27 [x8] x22.2) fun x24 =>
(Res.elim x24.1 (fun x25 => (bn (call 26 [x23, x25] x24.2) fun x26 =>
(Res.elim x26.1 (fun x27 => (some (Sum.inl ((Env.mk (sp [(1, (e.g 1)), (0, (e.g 2)), (2, x27), (62, (e.g 68)), (0, (e.g 69)), (0, (e.g 70))] 39) (e).df), x26.2)))) (fun x27 => (Option.map (Sum.inr ) (Option.map (Sum.inr ) (Option.map (Sum.inr ) (Option.map (Sum.inr ) (Option.map (Sum.inr ) (Option.map (Sum.inr ) (bn (leavesD dcall (fun (x28 : St) => (some (e.g 4))) (e).df (some x27) x26.2) fun x28 =>
(leaveM M RetK.keep A x28.1 x28.2)))))))))))) (fun x25 => (Option.map (Sum.inr ) (Option.map (Sum.inr ) (Option.map (Sum.inr ) (Option.map (Sum.inr ) (Option.map (Sum.inr ) (Option.map (Sum.inr ) (bn (leavesD dcall (fun (x26 : St) => (some (e.g 4))) (e).df (some x25) x24.2) fun x26 =>
(leaveM M RetK.keep A x26.1 x26.2)))))))))))) (fun x23 => (Option.map (Sum.inr ) (Option.map (Sum.inr ) (Option.map (Sum.inr ) (Option.map (Sum.inr ) (Option.map (Sum.inr ) (Option.map (Sum.inr ) (bn (leavesD dcall (fun (x24 : St) => (some (e.g 4))) (e).df (some x23) x22.2) fun x24 =>
(leaveM M RetK.keep A x24.1 x24.2))))))))))))
(some (Sum.inl ((Env.mk (sp [(1, (e.g 1)), (0, (e.g 2)), (2, (e.g 5)), (62, (e.g 68)), (0, (e.g 69)), (0, (e.g 70))] 39) (e).df), x10.2)))) fun x21 =>
(Sum.elim (fun (x22 : (Env × St)) => (some (Sum.inl ((Env.mk (sp [(1, (x22.1.g 1)), (0, (x22.1.g 2)), (2, (x22.1.g 5)), (62, (x22.1.g 68)), (0, (x22.1.g 69)), (0, (x22.1.g 70))] 39) (x22.1).df), x22.2)))) (fun (x22 : ((Env × St) ⊕ ((Env × St) ⊕ ((Env × St) ⊕ ((Env × St) ⊕ ((Env × St) ⊕ (Res × St))))))) => (some x22)) x21))))) fun x19 =>
(Sum.elim (fun (x20 : (Env × St)) => (some (Sum.inl ((Env.mk (sp [(1, (x20.1.g 1)), (0, (x20.1.g 2)), (2, (x20.1.g 5)), (62, (x20.1.g 68)), (0, (x20.1.g 69)), (0, (x20.1.g 70))] 39) (x20.1).df), x20.2)))) (fun (x20 : ((Env × St) ⊕ ((Env × St) ⊕ ((Env × St) ⊕ ((Env × St) ⊕ (Res × St)))))) => (some x20)) x19))))) fun x17 =>
(Sum.elim (fun (x18 : (Env × St)) => (some (Sum.inl ((Env.mk (sp [(1, (x18.1.g 1)), (0, (x18.1.g 2)), (2, (x18.1.g 5)), (62, (x18.1.g 68)), (0, (x18.1.g 69)), (0, (x18.1.g 70))] 39) (x18.1).df), x18.2)))) (fun (x18 : ((Env × St) ⊕ ((Env × St) ⊕ ((Env × St) ⊕ (Res × St))))) => (some x18)) x17))))) fun x15 =>
(Sum.elim (fun (x16 : (Env × St)) => (some (Sum.inl ((Env.mk (sp [(1, (x16.1.g 1)), (0, (x16.1.g 2)), (2, (x16.1.g 5)), (62, (x16.1.g 68)), (0, (x16.1.g 69)), (0, (x16.1.g 70))] 39) (x16.1).df), x16.2)))) (fun (x16 : ((Env × St) ⊕ ((Env × St) ⊕ (Res × St)))) => (some x16)) x15))))) fun x13 =>
(Sum.elim (fun (x14 : (Env × St)) => (bn (binO .add 3 true (x14.1.g 70) (n64 1)) fun x15 =>
(some (Sum.inl ((Env.mk (sp [(1, (x14.1.g 1)), (0, (x14.1.g 2)), (2, (x14.1.g 5)), (62, (x14.1.g 68)), (0, (x14.1.g 69)), (0, x15)] 39) (x14.1).df), x14.2))))) (fun (x14 : ((Env × St) ⊕ (Res × St))) => (some x14)) x13))))))) (fun x8 => (Option.map (Sum.inr ) (bn (leavesD dcall (fun (x9 : St) => (some (e.g 4))) (e).df (some x8) x7.2) fun x9 =>
(leaveM M RetK.keep A x9.1 x9.2)))))))))))
(Option.map (Sum.inr ) (bn (leavesD dcall (fun (x2 : St) => (some (e.g 5))) (e).df none Av5) fun x2 =>
(leaveM M RetK.keep A x2.1 x2.2))))))
noncomputable def f12_s1 (M : Mode) (call : CallT) (dcall : DcallT) (A : St) (e : Env) (Av5 : St) : (Option ((Env × St) ⊕ (Res × St))) :=
(bn (binO .lss 3 false (e.g 16) (e.g 15)) fun x0 =>
(bn (D.bool? x0) fun x1 =>
(ifb x1 (bn (indexAddrO 2 true (e.g 14) (e.g 16)) fun x2 =>
(bn (mp (loadO true 2 x2 Av5) fun x3 => (x3, Av5)) fun x3 =>
(bn (allocO [(D.str []), (D.sl Own.full 0 [])] x3.2) fun x4 =>
(bn (mp (storeO true 2 x4.1 x3.1 x4.2) fun x5 => ((D.tup []), x5)) fun x5 =>
(bn (fieldAddrO 0 (e.g 2)) fun x6 =>
(bn (mp (loadO false 1 x6 x5.2) fun x7 => (x7, x5.2)) fun x7 =>
(bn (binO .eql 3 true x7.1 (n64 1)) fun x8 =>
(bn (D.bool? x8) fun x9 =>
(bn (ifb x9 (bn (indexAddrO 1 false (e.g 5) (e.g 16)) fun x10 =>
(bn (mp (mp (loadO false 1 x10 x7.2) fun x11 => (x11, x7.2)) fun x11 => x11.1) fun x11 =>
(bn (binO .add 3 true (e.g 16) (n64 1)) fun x12 =>
(bn (fieldAddrO 0 x4.1) fun x13 =>
(bn (mp (mp (loadO false 1 x13 x7.2) fun x14 => (x14, x7.2)) fun x14 => x14.1) fun x14 =>
(bn (fieldAddrO 1 (e.g 2)) fun x15 =>
(bn (mp (mp (loadO false 1 x15 x7.2) fun x16 => (x16, x7.2)) fun x16 => x16.1) fun x16 =>
(bn (binO .eql 3 false x14 x16) fun x17 =>
(bn (indexAddrO 1 false x11 x12) fun x18 =>
(bn (mp (storeO false 1 x18 x17 x7.2) fun x19 => ((D.tup []), x19)) fun x19 =>
(@Mode.gs M ((Env × St) ⊕ ((Env × St) ⊕ (Res × St))) True true (some (Sum.inl ((Env.mk (sp [(1, (e.g 1)), (0, (e.g 2)), (2, (e.g 5)), (8, (e.g 14)), (0, (e.g 15)), (0, (e.g 16))] 93) (e).df), x19.2))))))))))))))
(bn (binO .eql 3 true x7.1 (n64 2)) fun x10 =>
(bn (D.bool? x10) fun x11 =>
(bn (ifb x11 (bn (indexAddrO 1 false (e.g 5) (e.g 16)) fun x12 =>
(bn (mp (mp (loadO false 1 x12 x7.2) fun x13 => (x13, x7.2)) fun x13 => x13.1) fun x13 =>
(bn (binO .add 3 true (e.g 16) (n64 1)) fun x14 =>
(bn (fieldAddrO 1 x4.1) fun x15 =>
(bn (mp (mp (loadO false 1 x15 x7.2) fun x16 => (x16, x7.2)) fun x16 => x16.1) fun x16 =>
(bn (fieldAddrO 1 (e.g 2)) fun x17 =>
(bn (mp (mp (loadO false 1 x17 x7.2) fun x18 => (x18, x7.2)) fun x18 => x18.1) fun x18 =>
(bn (call 23 [x16, x18] x7.2) fun x19 =>
(Res.elim x19.1 (fun x20 => (bn (indexAddrO 1 false x13 x14) fun x21 =>
(bn (mp (storeO false 1 x21 x20 x19.2) fun x22 => ((D.tup []), x22)) fun x22 =>
(@Mode.gs M ((Env × St) ⊕ ((Env × St) ⊕ ((Env × St) ⊕ (Res × St)))) ((sameAd x12 x7.2 x19.2) ∧ True) (Bool.and (sameAdB x12 x7.2 x19.2) true) (some (Sum.inl ((Env.mk (sp [(1, (e.g 1)), (0, (e.g 2)), (2, (e.g 5)), (8, (e.g 14)), (0, (e.g 15)), (0, (e.g 16))] 93) (e).df), x22.2))))))) (fun x20 => (@Mode.gs M ((Env × St) ⊕ ((Env × St) ⊕ ((Env × St) ⊕ (Res × St)))) ((sameAd x12 x7.2 x19.2) ∧ True) (Bool.and (sameAdB x12 x7.2 x19.2) true) (Option.map (Sum.inr ) (Option.map (Sum.inr ) (Option.map (Sum.inr ) (bn (leavesD dcall (fun (x21 : St) => (some (e.g 4))) (e).df (some x20) x19.2) fun x21 =>
(leaveM M RetK.keep A x21.1 x21.2))))))))))))))))
(bn (binO .eql 3 true x7.1 (n64 3)) fun x12 =>
(bn (D.bool? x12) fun x13 =>
(bn (ifb x13 (bn (indexAddrO 1 false (e.g 5) (e.g 16)) fun x14 =>
(bn (mp (loadO false 1 x14 x7.2) fun x15 => (x15, x7.2)) fun x15 =>
(bn (binO .add 3 true (e.g 16) (n64 1)) fun x16 =>
(bn (indexAddrO 1 false x15.1 x16) fun x17 =>
(bn (mp (storeO false 1 x17 (D.bool true) x15.2) fun x18 => ((D.tup []), x18)) fun x18 =>
(some (Sum.inl ((Env.mk (sp [(1, (e.g 1)), (0, (e.g 2)), (2, (e.g 5)), (8, (e.g 14)), (0, (e.g 15)), (0, (e.g 16))] 93) (e).df), x18.2))))))))
(some (Sum.inl ((Env.mk (sp [(1, (e.g 1)), (0, (e.g 2)), (2, (e.g 5)), (8, (e.g 14)), (0, (e.g 15)), (0, (e.g 16))] 93) (e).df), x7.2)))) fun x14 =>
(Sum.elim (fun (x15 : (Env × St)) => (some (Sum.inl ((Env.mk (sp [(1, (x15.1.g 1)), (0, (x15.1.g 2)), (2, (x15.1.g 5)), (8, (x15.1.g 14)), (0, (x15.1.g 15)), (0, (x15.1.g 16))] 93) (x15.1).df), x15.2)))) (fun (x15 : ((Env × St) ⊕ ((Env × St) ⊕ ((Env × St) ⊕ (Res × St))))) => (some x15)) x14))))) fun x12 =>
(Sum.elim (fun (x13 : (Env × St)) => (some (Sum.inl ((Env.mk (sp [(1, (x13.1.g 1)), (0, (x13.1.g 2)), (2, (x13.1.g 5)), (8, (x13.1.g 14)), (0, (x13.1.g 15)), (0, (x13.1.g 16))] 93) (x13.1).df), x13.2)))) (fun (x13 : ((Env × St) ⊕ ((Env × St) ⊕ (Res × St)))) => (some x13)) x12))))) fun x10 =>
(Sum.elim (fun (x11 : (Env × St)) => (bn (binO .add 3 true (x11.1.g 16) (n64 1)) fun x12 =>
(some (Sum.inl ((Env.mk (sp [(1, (x11.1.g 1)), (0, (x11.1.g 2)), (2, (x11.1.g 5)), (8, (x11.1.g 14)), (0, (x11.1.g 15)), (0, x12)] 93) (x11.1).df), x11.2))))) (fun (x11 : ((Env × St) ⊕ (Res × St))) => (some x11)) x10))))))))))
(Option.map (Sum.inr ) (bn (fieldAddrO 0 (e.g 2)) fun x2 =>
(bn (mp (loadO false 1 x2 Av5) fun x3 => (x3, Av5)) fun x3 =>
(bn (binO .eql 3 true x3.1 (n64 4)) fun x4 =>
(bn (D.bool? x4) fun x5 =>
(bn (ifb x5 (bn (lenSlO (e.g 1)) fun x6 =>
(bn (call 24 [x6] x3.2) fun x7 =>
(Res.elim x7.1 (fun x8 => (some (Sum.inl ((Env.mk (sp [(1, (e.g 1)), (0, (e.g 2)), (2, x8)] 104) (e).df), x7.2)))) (fun x8 => (Option.map (Sum.inr ) (bn (leavesD dcall (fun (x9 : St) => (some (e.g 4))) (e).df (some x8) x7.2) fun x9 =>
(leaveM M RetK.keep A x9.1 x9.2)))))))
(some (Sum.inl ((Env.mk (sp [(1, (e.g 1)), (0, (e.g 2)), (2, (e.g 5))] 104) (e).df), x3.2)))) fun x6 =>
(Sum.elim (fun (x7 : (Env × St)) => (bn (fieldAddrO 2 (x7.1.g 2)) fun x8 =>
(bn (mp (loadO false 1 x8 x7.2) fun x9 => (x9, x7.2)) fun x9 =>
(bn (lenSlO x9.1) fun x10 =>
(@Mode.it M (Res × St) (f12_s0 M call dcall A) (Env.mk (sp [(1, (x7.1.g 1)), (0, (x7.1.g 2)), (2, (x7.1.g 5)), (62, x9.1), (0, x10), (0, (n64 0))] 39) (x7.1).df) x9.2))))) (fun (x7 : (Res × St)) => (some x7)) x6))))))))))
noncomputable def f12 (M : Mode) (call : CallT) (dcall : DcallT) (a0 : D) (a1 : D) (A : St) : (Option (Res × St)) :=
(bn (boxO true a0 A) fun x0 =>
(bn (lenSlO a1) fun x1 =>
(bn (call 22 [x1] x0.2) fun x2 =>
(Res.elim x2.1 (fun x3 => (bn (lenSlO a1) fun x4 =>
(@Mode.it M (Res × St) (f12_s1 M call dcall A) (Env.mk (sp [(1, a1), (0, x0.1), (2, x3), (8, a1), (0, x4), (0, (n64 0))] 93) []) x2.2))) (fun x3 => (leaveM M RetK.keep A (Res.pan x3) x2.2))))))
theorem b12 (M : Mode) (call : CallT) (dcall : DcallT) (a0 a1 : D) (A : St) : bodyN M Tryz.prog rxHint kk call dcall 12 [a0, a1] A = f12 M call dcall a0.canon a1.canon A := by
  kernel_rfl
theorem r12 (a0 a1 : D) (A : St) : Run Tryz.prog rxA 12 [a0, a1] A = f12 mL (Run Tryz.prog rxA) (Dcall Tryz.prog rxA) a0.canon a1.canon A := (Run_eqN Tryz.prog rxA kk rfl rfl _ _).trans (b12 mL (Run Tryz.prog rxA) (Dcall Tryz.prog rxA) a0 a1 A)
noncomputable def f13 (M : Mode) (call : CallT) (dcall : DcallT) (a0 : D) (A : St) : (Option (Res × St)) :=
(bn (boxO true a0 A) fun x0 =>
(bn (mp (loadO true 3 x0.1 x0.2) fun x1 => (x1, x0.2)) fun x1 =>
(bn (call 28 [x1.1, (n64 1000), (n64 100001)] x1.2) fun x2 =>
(Res.elim x2.1 (fun x3 => (bn (extractD x3 0) fun x4 =>
(bn (extractD x3 1) fun x5 =>
(bn (binO .gtr 3 true x4 (n64 1000)) fun x6 =>
(bn (D.bool? x6) fun x7 =>
(ifb x7 (leaveM M RetK.can A (Res.ret (n64 3)) x2.2)
(bn (mp (loadO true 3 x0.1 x2.2) fun x8 => (x8, x2.2)) fun x8 =>
(bn (call 29 [x8.1, (n64 100)] x8.2) fun x9 =>
(Res.elim x9.1 (fun x10 => (bn (D.bool? x10) fun x11 =>
(ifb x11 (leaveM M RetK.can A (Res.ret (n64 91)) x9.2)
(bn (mp (loadO true 3 x0.1 x9.2) fun x12 => (x12, x9.2)) fun x12 =>
(bn (call 30 [x12.1] x12.2) fun x13 =>
(Res.elim x13.1 (fun x14 => (bn (unD UnOp.not x14) fun x15 =>
(bn (D.bool? x15) fun x16 =>
(ifb x16 (leaveM M RetK.can A (Res.ret (n64 92)) x13.2)
(leaveM M RetK.can A (Res.ret (n64 0)) x13.2))))) (fun x14 => (leaveM M RetK.can A (Res.pan x14) x13.2)))))))) (fun x10 => (leaveM M RetK.can A (Res.pan x10) x9.2))))))))))) (fun x3 => (leaveM M RetK.can A (Res.pan x3) x2.2))))))
theorem b13 (M : Mode) (call : CallT) (dcall : DcallT) (a0 : D) (A : St) : bodyN M Tryz.prog rxHint kk call dcall 13 [a0] A = f13 M call dcall a0.canon A := by
  kernel_rfl
theorem r13 (a0 : D) (A : St) : Run Tryz.prog rxA 13 [a0] A = f13 mL (Run Tryz.prog rxA) (Dcall Tryz.prog rxA) a0.canon A := (Run_eqN Tryz.prog rxA kk rfl rfl _ _).trans (b13 mL (Run Tryz.prog rxA) (Dcall Tryz.prog rxA) a0 A)
noncomputable def f14_s0 (M : Mode) (call : CallT) (dcall : DcallT) (A : St) (e : Env) (Av5 : St) : (Option ((Env × St) ⊕ (Res × St))) :=
(bn (binO .lss 3 false (e.g 7) (e.g 5)) fun x0 =>
(bn (D.bool? x0) fun x1 =>
(ifb x1 (bn (indexAddrO 1 false (e.g 6) (e.g 7)) fun x2 =>
(bn (mp (mp (loadO false 1 x2 Av5) fun x3 => (x3, Av5)) fun x3 => x3.1) fun x3 =>
(bn (binO .add 3 true (e.g 7) (n64 1)) fun x4 =>
(bn (mp (mp (loadO true 3 (e.g 2) Av5) fun x5 => (x5, Av5)) fun x5 => x5.1) fun x5 =>
(bn (indexAddrO 2 true (e.g 1) (e.g 7)) fun x6 =>
(bn (mp (mp (loadO true 2 x6 Av5) fun x7 => (x7, Av5)) fun x7 => x7.1) fun x7 =>
(bn (call 32 [x5, x7] Av5) fun x8 =>
(Res.elim x8.1 (fun x9 => (bn (indexAddrO 1 false x3 x4) fun x10 =>
(bn (mp (storeO false 1 x10 x9 x8.2) fun x11 => ((D.tup []), x11)) fun x11 =>
(@Mode.gs M ((Env × St) ⊕ (Res × St)) ((sameAd x2 Av5 x8.2) ∧ True) (Bool.and (sameAdB x2 Av5 x8.2) true) (bn (binO .add 3 true (e.g 7) (n64 1)) fun x12 =>
(some (Sum.inl ((Env.mk (sp [(1, (e.g 1)), (0, (e.g 2)), (2, (e.g 5)), (0, (e.g 6)), (0, x12)] 157) (e).df), x11.2)))))))) (fun x9 => (@Mode.gs M ((Env × St) ⊕ (Res × St)) ((sameAd x2 Av5 x8.2) ∧ True) (Bool.and (sameAdB x2 Av5 x8.2) true) (Option.map (Sum.inr ) (bn (leavesD dcall (fun (x10 : St) => (some (e.g 4))) (e).df (some x9) x8.2) fun x10 =>
(leaveM M RetK.keep A x10.1 x10.2)))))))))))))
(Option.map (Sum.inr ) (bn (leavesD dcall (fun (x2 : St) => (some (e.g 6))) (e).df none Av5) fun x2 =>
(leaveM M RetK.keep A x2.1 x2.2))))))
noncomputable def f14_s1 (M : Mode) (call : CallT) (dcall : DcallT) (A : St) (e : Env) (Av5 : St) : (Option ((Env × St) ⊕ (Res × St))) :=
(bn (fieldAddrO 2 (e.g 2)) fun x0 =>
(bn (mp (loadO false 1 x0 Av5) fun x1 => (x1, Av5)) fun x1 =>
(bn (lenSlO x1.1) fun x2 =>
(bn (binO .lss 3 false (e.g 9) x2) fun x3 =>
(bn (D.bool? x3) fun x4 =>
(ifb x4 (bn (fieldAddrO 2 (e.g 2)) fun x5 =>
(bn (mp (loadO false 1 x5 x1.2) fun x6 => (x6, x1.2)) fun x6 =>
(bn (indexAddrO 3 true x6.1 (e.g 9)) fun x7 =>
(bn (mp (loadO true 3 x7 x6.2) fun x8 => (x8, x6.2)) fun x8 =>
(bn (call 14 [x8.1, (e.g 1)] x8.2) fun x9 =>
(Res.elim x9.1 (fun x10 => (bn (call 33 [(e.g 6), x10] x9.2) fun x11 =>
(Res.elim x11.1 (fun x12 => (bn (binO .add 3 true (e.g 9) (n64 1)) fun x13 =>
(some (Sum.inl ((Env.mk (sp [(1, (e.g 1)), (0, (e.g 2)), (3, x12), (2, x13)] 155) (e).df), x11.2))))) (fun x12 => (Option.map (Sum.inr ) (bn (leavesD dcall (fun (x13 : St) => (some (e.g 4))) (e).df (some x12) x11.2) fun x13 =>
(leaveM M RetK.keep A x13.1 x13.2))))))) (fun x10 => (Option.map (Sum.inr ) (bn (leavesD dcall (fun (x11 : St) => (some (e.g 4))) (e).df (some x10) x9.2) fun x11 =>
(leaveM M RetK.keep A x11.1 x11.2))))))))))
(Option.map (Sum.inr ) (bn (leavesD dcall (fun (x5 : St) => (some (e.g 6))) (e).df none x1.2) fun x5 =>
(leaveM M RetK.keep A x5.1 x5.2)))))))))
noncomputable def f14_s2 (M : Mode) (call : CallT) (dcall : DcallT) (A : St) (e : Env) (Av5 : St) : (Option ((Env × St) ⊕ (Res × St))) :=
(bn (binO .leq 3 false (e.g 8) (e.g 5)) fun x0 =>
(bn (D.bool? x0) fun x1 =>
(ifb x1 (bn (indexAddrO 1 false (e.g 6) (e.g 8)) fun x2 =>
(bn (mp (loadO false 1 x2 Av5) fun x3 => (x3, Av5)) fun x3 =>
(bn (indexAddrO 1 false x3.1 (e.g 8)) fun x4 =>
(bn (mp (storeO false 1 x4 (D.bool true) x3.2) fun x5 => ((D.tup []), x5)) fun x5 =>
(bn (binO .add 3 true (e.g 8) (n64 1)) fun x6 =>
(some (Sum.inl ((Env.mk (sp [(1, (e.g 1)), (0, (e.g 2)), (2, (e.g 5)), (0, (e.g 6)), (1, x6)] 156) (e).df), x5.2))))))))
(Option.map (Sum.inr ) (@Mode.it M (Res × St) (f14_s1 M call dcall A) (Env.mk (sp [(1, (e.g 1)), (0, (e.g 2)), (3, (e.g 6)), (2, (n64 0))] 155) (e).df) Av5)))))
noncomputable def f14_s3 (M : Mode) (call : CallT) (dcall : DcallT) (A : St) (e : Env) (Av5 : St) : (Option ((Env × St) ⊕ (Res × St))) :=
(bn (fieldAddrO 2 (e.g 2)) fun x0 =>
(bn (mp (loadO false 1 x0 Av5) fun x1 => (x1, Av5)) fun x1 =>
(bn (lenSlO x1.1) fun x2 =>
(bn (binO .lss 3 false (e.g 10) x2) fun x3 =>
(bn (D.bool? x3) fun x4 =>
(ifb x4 (bn (fieldAddrO 2 (e.g 2)) fun x5 =>
(bn (mp (loadO false 1 x5 x1.2) fun x6 => (x6, x1.2)) fun x6 =>
(bn (indexAddrO 3 true x6.1 (e.g 10)) fun x7 =>
(bn (mp (loadO true 3 x7 x6.2) fun x8 => (x8, x6.2)) fun x8 =>
(bn (call 14 [x8.1, (e.g 1)] x8.2) fun x9 =>
(Res.elim x9.1 (fun x10 => (bn (call 34 [(e.g 6), x10] x9.2) fun x11 =>
(Res.elim x11.1 (fun x12 => (bn (binO .add 3 true (e.g 10) (n64 1)) fun x13 =>
(some (Sum.inl ((Env.mk (sp [(1, (e.g 1)), (0, (e.g 2)), (3, x12), (3, x13)] 154) (e).df), x11.2))))) (fun x12 => (Option.map (Sum.inr ) (bn (leavesD dcall (fun (x13 : St) => (some (e.g 4))) (e).df (some x12) x11.2) fun x13 =>
(leaveM M RetK.keep A x13.1 x13.2))))))) (fun x10 => (Option.map (Sum.inr ) (bn (leavesD dcall (fun (x11 : St) => (some (e.g 4))) (e).df (some x10) x9.2) fun x11 =>
(leaveM M RetK.keep A x11.1 x11.2))))))))))
(Option.map (Sum.inr ) (bn (leavesD dcall (fun (x5 : St) => (some (e.g 6))) (e).df none x1.2) fun x5 =>
(leaveM M RetK.keep A x5.1 x5.2)))))))))
noncomputable def f14_s4 (M : Mode) (call : CallT) (dcall : DcallT) (e : Env) (A : St) : (Option ((Env × St) ⊕ ((Env × St) ⊕ ((Env × St) ⊕ ((Env × St) ⊕ (Res × St)))))) :=
(bn (binO .leq 3 false (e.g 13) (e.g 5)) fun x0 =>
(bn (D.bool? x0) fun x1 =>
(ifb x1 (bn (indexAddrO 1 false (e.g 6) (e.g 12)) fun x2 =>
(bn (mp (mp (loadO false 1 x2 A) fun x3 => (x3, A)) fun x3 => x3.1) fun x3 =>
(bn (indexAddrO 1 false (e.g 6) (e.g 12)) fun x4 =>
(bn (mp (mp (loadO false 1 x4 A) fun x5 => (x5, A)) fun x5 => x5.1) fun x5 =>
(bn (indexAddrO 1 false x5 (e.g 13)) fun x6 =>
(bn (mp (mp (loadO false 1 x6 A) fun x7 => (x7, A)) fun x7 => x7.1) fun x7 =>
(bn (guardB false x7) fun x8 =>
(bn (ifb x8 (some (e.g 6))
(some (D.tup []))) fun x9 =>
(bn (guardB false x7) fun x10 =>
(bn (ifb x10 (some (e.g 12))
(some (D.tup []))) fun x11 =>
(bn (guardB false x7) fun x12 =>
(bn (ifb x12 (indexAddrO 1 false x9 x11)
(some (D.tup []))) fun x13 =>
(bn (guardB false x7) fun x14 =>
(bn (ifb x14 (mp (mp (loadO false 1 x13 A) fun x15 => (x15, A)) fun x15 => x15.1)
(some (D.tup []))) fun x15 =>
(bn (guardB false x7) fun x16 =>
(bn (ifb x16 (some (e.g 11))
(some (D.tup []))) fun x17 =>
(bn (guardB false x7) fun x18 =>
(bn (ifb x18 (indexAddrO 1 false x15 x17)
(some (D.tup []))) fun x19 =>
(bn (guardB false x7) fun x20 =>
(bn (ifb x20 (mp (mp (loadO false 1 x19 A) fun x21 => (x21, A)) fun x21 => x21.1)
(some (D.tup []))) fun x21 =>
(bn (guardB false x7) fun x22 =>
(bn (ifb x22 (some x21)
(some (D.tup []))) fun x23 =>
(bn (guardB true x23) fun x24 =>
(bn (ifb x24 (some (e.g 6))
(some (D.tup []))) fun x25 =>
(bn (guardB true x23) fun x26 =>
(bn (ifb x26 (some (e.g 11))
(some (D.tup []))) fun x27 =>
(bn (guardB true x23) fun x28 =>
(bn (ifb x28 (indexAddrO 1 false x25 x27)
(some (D.tup []))) fun x29 =>
(bn (guardB true x23) fun x30 =>
(bn (ifb x30 (mp (mp (loadO false 1 x29 A) fun x31 => (x31, A)) fun x31 => x31.1)
(some (D.tup []))) fun x31 =>
(bn (guardB true x23) fun x32 =>
(bn (ifb x32 (some (e.g 13))
(some (D.tup []))) fun x33 =>
(bn (guardB true x23) fun x34 =>
(bn (ifb x34 (indexAddrO 1 false x31 x33)
(some (D.tup []))) fun x35 =>
(bn (guardB true x23) fun x36 =>
(bn (ifb x36 (mp (mp (loadO false 1 x35 A) fun x37 => (x37, A)) fun x37 => x37.1)
(some (D.tup []))) fun x37 =>
(bn (guardB false x7) fun x38 =>
(bn (ifb x38 (mp (D.bool? x23) fun x39 => (ifb x39 x37
(D.bool false)))
(some (D.tup []))) fun x39 =>
(bn (mp (D.bool? x7) fun x40 => (ifb x40 (D.bool true)
 x39)) fun x40 =>
(bn (indexAddrO 1 false x3 (e.g 13)) fun x41 =>
(bn (mp (storeO false 1 x41 x40 A) fun x42 => ((D.tup []), x42)) fun x42 =>
(@Mode.gs M ((Env × St) ⊕ ((Env × St) ⊕ ((Env × St) ⊕ ((Env × St) ⊕ (Res × St))))) True true (bn (binO .add 3 true (e.g 13) (n64 1)) fun x43 =>
(some (Sum.inl ((Env.mk (sp [(2, (e.g 2)), (2, (e.g 5)), (0, (e.g 6)), (4, (e.g 11)), (0, (e.g 12)), (0, x43)] 151) (e).df), x42.2))))))))))))))))))))))))))))))))))))))))))))))
(Option.map (Sum.inr ) (bn (binO .add 3 true (e.g 12) (n64 1)) fun x2 =>
(some (Sum.inl ((Env.mk (sp [(2, (e.g 2)), (2, (e.g 5)), (0, (e.g 6)), (4, (e.g 11)), (0, x2)] 152) (e).df), A))))))))
noncomputable def f14_s5 (M : Mode) (call : CallT) (dcall : DcallT) (e : Env) (A : St) : (Option ((Env × St) ⊕ ((Env × St) ⊕ ((Env × St) ⊕ (Res × St))))) :=
(bn (binO .leq 3 false (e.g 12) (e.g 5)) fun x0 =>
(bn (D.bool? x0) fun x1 =>
(ifb x1 (@Mode.it M ((Env × St) ⊕ ((Env × St) ⊕ ((Env × St) ⊕ (Res × St)))) (f14_s4 M call dcall) (Env.mk (sp [(2, (e.g 2)), (2, (e.g 5)), (0, (e.g 6)), (4, (e.g 11)), (0, (e.g 12)), (0, (n64 0))] 151) (e).df) A)
(Option.map (Sum.inr ) (bn (binO .add 3 true (e.g 11) (n64 1)) fun x2 =>
(some (Sum.inl ((Env.mk (sp [(2, (e.g 2)), (2, (e.g 5)), (0, (e.g 6)), (4, x2)] 153) (e).df), A))))))))
noncomputable def f14_s6 (M : Mode) (call : CallT) (dcall : DcallT) (e : Env) (A : St) : (Option ((Env × St) ⊕ ((Env × St) ⊕ (Res × St)))) :=
(bn (binO .leq 3 false (e.g 11) (e.g 5)) fun x0 =>
(bn (D.bool? x0) fun x1 =>
(ifb x1 (@Mode.it M ((Env × St) ⊕ ((Env × St) ⊕ (Res × St))) (f14_s5 M call dcall) (Env.mk (sp [(2, (e.g 2)), (2, (e.g 5)), (0, (e.g 6)), (4, (e.g 11)), (0, (n64 0))] 152) (e).df) A)
(some (Sum.inr (Sum.inl ((Env.mk (sp [(2, (e.g 2)), (2, (e.g 5)), (0, (e.g 6))] 158) (e).df), A)))))))
noncomputable def f14_s7 (M : Mode) (call : CallT) (dcall : DcallT) (A : St) (e : Env) (Av5 : St) : (Option ((Env × St) ⊕ (Res × St))) :=
(bn (fieldAddrO 0 (e.g 2)) fun x0 =>
(bn (mp (loadO false 1 x0 Av5) fun x1 => (x1, Av5)) fun x1 =>
(bn (binO .neq 3 true x1.1 (n64 7)) fun x2 =>
(bn (guardB true x2) fun x3 =>
(bn (ifb x3 (some (e.g 14))
(some (D.tup []))) fun x4 =>
(bn (guardB true x2) fun x5 =>
(bn (ifb x5 (some (e.g 5))
(some (D.tup []))) fun x6 =>
(bn (guardB true x2) fun x7 =>
(bn (ifb x7 (binO .leq 3 false x4 x6)
(some (D.tup []))) fun x8 =>
(bn (mp (D.bool? x2) fun x9 => (ifb x9 x8
(D.bool false))) fun x9 =>
(bn (D.bool? x9) fun x10 =>
(ifb x10 (bn (indexAddrO 1 false (e.g 6) (e.g 14)) fun x11 =>
(bn (mp (loadO false 1 x11 x1.2) fun x12 => (x12, x1.2)) fun x12 =>
(bn (indexAddrO 1 false x12.1 (e.g 14)) fun x13 =>
(bn (mp (storeO false 1 x13 (D.bool true) x12.2) fun x14 => ((D.tup []), x14)) fun x14 =>
(bn (binO .add 3 true (e.g 14) (n64 1)) fun x15 =>
(some (Sum.inl ((Env.mk (sp [(2, (e.g 2)), (2, (e.g 5)), (0, (e.g 6)), (7, x15)] 150) (e).df), x14.2))))))))
(Option.map (Sum.inr ) (bn (leavesD dcall (fun (x11 : St) => (some (e.g 6))) (e).df none x1.2) fun x11 =>
(leaveM M RetK.keep A x11.1 x11.2)))))))))))))))
noncomputable def f14 (M : Mode) (call : CallT) (dcall : DcallT) (a0 : D) (a1 : D) (A : St) : (Option (Res × St)) :=
(bn (boxO true a0 A) fun x0 =>
(bn (lenSlO a1) fun x1 =>
(bn (call 31 [x1] x0.2) fun x2 =>
(Res.elim x2.1 (fun x3 => (bn (fieldAddrO 0 x0.1) fun x4 =>
(bn (mp (loadO false 1 x4 x2.2) fun x5 => (x5, x2.2)) fun x5 =>
(bn (binO .eql 3 true x5.1 (n64 1)) fun x6 =>
(bn (D.bool? x6) fun x7 =>
(bn (ifb x7 (some (Sum.inl ((Env.mk (sp [(1, a1), (0, x0.1), (2, x1), (0, x3), (13, x5.1), (0, (D.bool true))] 143) []), x5.2)))
(bn (binO .eql 3 true x5.1 (n64 2)) fun x8 =>
(bn (D.bool? x8) fun x9 =>
(bn (ifb x9 (some (Sum.inl ((Env.mk (sp [(1, a1), (0, x0.1), (2, x1), (0, x3), (13, x5.1), (0, (D.bool true))] 143) []), x5.2)))
(bn (binO .eql 3 true x5.1 (n64 3)) fun x10 =>
(some (Sum.inl ((Env.mk (sp [(1, a1), (0, x0.1), (2, x1), (0, x3), (13, x5.1), (0, x10)] 143) []), x5.2))))) fun x10 =>
(Sum.elim (fun (x11 : (Env × St)) => (some (Sum.inl ((Env.mk (sp [(1, (x11.1.g 1)), (0, (x11.1.g 2)), (2, (x11.1.g 5)), (0, (x11.1.g 6)), (13, (x11.1.g 20)), (0, (x11.1.g 21))] 143) (x11.1).df), x11.2)))) (fun (x11 : ((Env × St) ⊕ (Res × St))) => (some x11)) x10))))) fun x8 =>
(Sum.elim (fun (x9 : (Env × St)) => (bn (D.bool? (x9.1.g 21)) fun x10 =>
(ifb x10 (@Mode.it M (Res × St) (f14_s0 M call dcall A) (Env.mk (sp [(1, (x9.1.g 1)), (0, (x9.1.g 2)), (2, (x9.1.g 5)), (0, (x9.1.g 6)), (0, (n64 0))] 157) (x9.1).df) x9.2)
(bn (binO .eql 3 true (x9.1.g 20) (n64 4)) fun x11 =>
(bn (D.bool? x11) fun x12 =>
(ifb x12 (@Mode.it M (Res × St) (f14_s2 M call dcall A) (Env.mk (sp [(1, (x9.1.g 1)), (0, (x9.1.g 2)), (2, (x9.1.g 5)), (0, (x9.1.g 6)), (1, (n64 0))] 156) (x9.1).df) x9.2)
(bn (binO .eql 3 true (x9.1.g 20) (n64 5)) fun x13 =>
(bn (D.bool? x13) fun x14 =>
(ifb x14 (@Mode.it M (Res × St) (f14_s3 M call dcall A) (Env.mk (sp [(1, (x9.1.g 1)), (0, (x9.1.g 2)), (3, (x9.1.g 6)), (3, (n64 0))] 154) (x9.1).df) x9.2)
(bn (fieldAddrO 2 (x9.1.g 2)) fun x15 =>
(bn (mp (loadO false 1 x15 x9.2) fun x16 => (x16, x9.2)) fun x16 =>
(bn (indexAddrO 3 true x16.1 (n64 0)) fun x17 =>
(bn (mp (loadO true 3 x17 x16.2) fun x18 => (x18, x16.2)) fun x18 =>
(bn (call 14 [x18.1, (x9.1.g 1)] x18.2) fun x19 =>
(Res.elim x19.1 (fun x20 => (bn (fieldAddrO 0 (x9.1.g 2)) fun x21 =>
(bn (mp (loadO false 1 x21 x19.2) fun x22 => (x22, x19.2)) fun x22 =>
(bn (binO .neq 3 true x22.1 (n64 8)) fun x23 =>
(bn (D.bool? x23) fun x24 =>
(bn (ifb x24 (@Mode.it M ((Env × St) ⊕ (Res × St)) (f14_s6 M call dcall) (Env.mk (sp [(2, (x9.1.g 2)), (2, (x9.1.g 5)), (0, x20), (4, (n64 0))] 153) (x9.1).df) x22.2)
(some (Sum.inl ((Env.mk (sp [(2, (x9.1.g 2)), (2, (x9.1.g 5)), (0, x20)] 158) (x9.1).df), x22.2)))) fun x25 =>
(Sum.elim (fun (x26 : (Env × St)) => (@Mode.it M (Res × St) (f14_s7 M call dcall A) (Env.mk (sp [(2, (x26.1.g 2)), (2, (x26.1.g 5)), (0, (x26.1.g 6)), (7, (n64 0))] 150) (x26.1).df) x26.2)) (fun (x26 : (Res × St)) => (some x26)) x25))))))) (fun x20 => (bn (leavesD dcall (fun (x21 : St) => (some (x9.1.g 4))) (x9.1).df (some x20) x19.2) fun x21 =>
(leaveM M RetK.keep A x21.1 x21.2)))))))))))))))))) (fun (x9 : (Res × St)) => (some x9)) x8))))))) (fun x3 => (leaveM M RetK.keep A (Res.pan x3) x2.2))))))
theorem b14 (M : Mode) (call : CallT) (dcall : DcallT) (a0 a1 : D) (A : St) : bodyN M Tryz.prog rxHint kk call dcall 14 [a0, a1] A = f14 M call dcall a0.canon a1.canon A := by
  kernel_rfl
theorem r14 (a0 a1 : D) (A : St) : Run Tryz.prog rxA 14 [a0, a1] A = f14 mL (Run Tryz.prog rxA) (Dcall Tryz.prog rxA) a0.canon a1.canon A := (Run_eqN Tryz.prog rxA kk rfl rfl _ _).trans (b14 mL (Run Tryz.prog rxA) (Dcall Tryz.prog rxA) a0 a1 A)
noncomputable def f15_s0 (M : Mode) (call : CallT) (dcall : DcallT) (A : St) (e : Env) (Av5 : St) : (Option ((Env × St) ⊕ (Res × St))) :=
(bn (binO .lss 3 false (e.g 20) (e.g 19)) fun x0 =>
(bn (D.bool? x0) fun x1 =>
(ifb x1 (bn (indexAddrO 3 true (e.g 18) (e.g 20)) fun x2 =>
(bn (mp (loadO true 3 x2 Av5) fun x3 => (x3, Av5)) fun x3 =>
(bn (allocO [(n64 0), (D.str []), (D.sl Own.full 0 [])] x3.2) fun x4 =>
(bn (mp (storeO true 3 x4.1 x3.1 x4.2) fun x5 => ((D.tup []), x5)) fun x5 =>
(bn (mp (loadO true 3 x4.1 x5.2) fun x6 => (x6, x5.2)) fun x6 =>
(bn (call 15 [x6.1, (e.g 1)] x6.2) fun x7 =>
(Res.elim x7.1 (fun x8 => (bn (appendO 1 16 (e.g 5) x8 x7.2) fun x9 =>
(bn (tokO [(0, 1000001)] x9.1 x9.2) fun x10 =>
(bn (binO .add 3 true (e.g 20) (n64 1)) fun x11 =>
(some (Sum.inl ((Env.mk (sp [(1, (e.g 1)), (3, x10.1), (12, (e.g 18)), (0, (e.g 19)), (0, x11)] 13) (e).df), x10.2))))))) (fun x8 => (Option.map (Sum.inr ) (bn (leavesD dcall (fun (x9 : St) => (some (e.g 4))) (e).df (some x8) x7.2) fun x9 =>
(leaveM M RetK.frz A x9.1 x9.2)))))))))))
(Option.map (Sum.inr ) (bn (call 35 [(e.g 5)] Av5) fun x2 =>
(Res.elim x2.1 (fun x3 => (bn (call 36 [(e.g 5)] x2.2) fun x4 =>
(Res.elim x4.1 (fun x5 => (bn (leavesD dcall (fun (x6 : St) => (some x5)) (e).df none x4.2) fun x6 =>
(leaveM M RetK.frz A x6.1 x6.2))) (fun x5 => (bn (leavesD dcall (fun (x6 : St) => (some (e.g 4))) (e).df (some x5) x4.2) fun x6 =>
(leaveM M RetK.frz A x6.1 x6.2)))))) (fun x3 => (bn (leavesD dcall (fun (x4 : St) => (some (e.g 4))) (e).df (some x3) x2.2) fun x4 =>
(leaveM M RetK.frz A x4.1 x4.2)))))))))
noncomputable def f15 (M : Mode) (call : CallT) (dcall : DcallT) (a0 : D) (a1 : D) (A : St) : (Option (Res × St)) :=
(bn (boxO true a0 A) fun x0 =>
(bn (tokO [(0, 1000001)] (D.sl Own.full 0 []) x0.2) fun x1 =>
(bn (fieldAddrO 0 x0.1) fun x2 =>
(bn (mp (loadO false 1 x2 x1.2) fun x3 => (x3, x1.2)) fun x3 =>
(bn (binO .eql 3 false x3.1 a1) fun x4 =>
(bn (D.bool? x4) fun x5 =>
(bn (ifb x5 (bn (fieldAddrO 1 x0.1) fun x6 =>
(bn (mp (loadO false 1 x6 x3.2) fun x7 => (x7, x3.2)) fun x7 =>
(bn (mp (Option.map (D.sl Own.full 1) (sliceParts 1 false 0 [(0, x7.1)])) fun x8 => (x8, x7.2)) fun x8 =>
(bn (appendO 1 16 x1.1 x8.1 x8.2) fun x9 =>
(bn (tokO [(0, 1000001)] x9.1 x9.2) fun x10 =>
(some (Sum.inl ((Env.mk (sp [(1, a1), (0, x0.1), (2, x10.1)] 28) []), x10.2))))))))
(some (Sum.inl ((Env.mk (sp [(1, a1), (0, x0.1), (2, x1.1)] 28) []), x3.2)))) fun x6 =>
(Sum.elim (fun (x7 : (Env × St)) => (bn (fieldAddrO 2 (x7.1.g 2)) fun x8 =>
(bn (mp (loadO false 1 x8 x7.2) fun x9 => (x9, x7.2)) fun x9 =>
(bn (lenSlO x9.1) fun x10 =>
(@Mode.it M (Res × St) (f15_s0 M call dcall A) (Env.mk (sp [(1, (x7.1.g 1)), (3, (x7.1.g 5)), (12, x9.1), (0, x10), (0, (n64 0))] 13) (x7.1).df) x9.2))))) (fun (x7 : (Res × St)) => (some x7)) x6))))))))
theorem b15 (M : Mode) (call : CallT) (dcall : DcallT) (a0 a1 : D) (A : St) : bodyN M Tryz.prog rxHint kk call dcall 15 [a0, a1] A = f15 M call dcall a0.canon a1.canon A := by
  kernel_rfl
theorem r15 (a0 a1 : D) (A : St) : Run Tryz.prog rxA 15 [a0, a1] A = f15 mL (Run Tryz.prog rxA) (Dcall Tryz.prog rxA) a0.canon a1.canon A := (Run_eqN Tryz.prog rxA kk rfl rfl _ _).trans (b15 mL (Run Tryz.prog rxA) (Dcall Tryz.prog rxA) a0 a1 A)
noncomputable def f16_s0 (M : Mode) (call : CallT) (dcall : DcallT) (A : St) (e : Env) (Av5 : St) : (Option ((Env × St) ⊕ (Res × St))) :=
(bn (fieldAddrO 2 (e.g 3)) fun x0 =>
(bn (mp (loadO false 1 x0 Av5) fun x1 => (x1, Av5)) fun x1 =>
(bn (lenSlO x1.1) fun x2 =>
(bn (binO .lss 3 false (e.g 7) x2) fun x3 =>
(bn (D.bool? x3) fun x4 =>
(ifb x4 (bn (fieldAddrO 2 (e.g 3)) fun x5 =>
(bn (mp (loadO false 1 x5 x1.2) fun x6 => (x6, x1.2)) fun x6 =>
(bn (indexAddrO 3 true x6.1 (e.g 7)) fun x7 =>
(bn (mp (loadO true 3 x7 x6.2) fun x8 => (x8, x6.2)) fun x8 =>
(bn (call 16 [x8.1, (e.g 1), (e.g 2)] x8.2) fun x9 =>
(Res.elim x9.1 (fun x10 => (bn (binO .add 3 true (e.g 7) (n64 1)) fun x11 =>
(@Mode.gk M ((Env × St) ⊕ (Res × St)) Av5 x9.2 (some (Sum.inl ((Env.mk (sp [(1, (D.shut (List.length Av5) (e.g 1))), (0, (D.shut (List.length Av5) x10)), (0, (D.shut (List.length Av5) (e.g 3))), (3, (D.shut (List.length Av5) x11))] 24) (List.map (fun (x12 : (D × (List D))) => ((D.shut (List.length Av5) x12.1), (D.shutL (List.length Av5) x12.2))) (e).df)), (List.take (List.length Av5) x9.2))))))) (fun x10 => (Option.map (Sum.inr ) (bn (leavesD dcall (fun (x11 : St) => (some (e.g 6))) (e).df (some x10) x9.2) fun x11 =>
(leaveM M RetK.can A x11.1 x11.2))))))))))
(Option.map (Sum.inr ) (bn (leavesD dcall (fun (x5 : St) => (some (e.g 2))) (e).df none x1.2) fun x5 =>
(leaveM M RetK.can A x5.1 x5.2)))))))))
noncomputable def f16 (M : Mode) (call : CallT) (dcall : DcallT) (a0 : D) (a1 : D) (a2 : D) (A : St) : (Option (Res × St)) :=
(bn (boxO true a0 A) fun x0 =>
(bn (fieldAddrO 0 x0.1) fun x1 =>
(bn (mp (loadO false 1 x1 x0.2) fun x2 => (x2, x0.2)) fun x2 =>
(bn (binO .eql 3 false x2.1 a1) fun x3 =>
(bn (D.bool? x3) fun x4 =>
(bn (ifb x4 (bn (fieldAddrO 1 x0.1) fun x5 =>
(bn (mp (loadO false 1 x5 x2.2) fun x6 => (x6, x2.2)) fun x6 =>
(bn (call 37 [a2, x6.1] x6.2) fun x7 =>
(Res.elim x7.1 (fun x8 => (some (Sum.inl ((Env.mk (sp [(1, a1), (0, x8), (0, x0.1)] 28) []), x7.2)))) (fun x8 => (Option.map (Sum.inr ) (leaveM M RetK.can A (Res.pan x8) x7.2)))))))
(some (Sum.inl ((Env.mk (sp [(1, a1), (0, a2), (0, x0.1)] 28) []), x2.2)))) fun x5 =>
(Sum.elim (fun (x6 : (Env × St)) => (@Mode.it M (Res × St) (f16_s0 M call dcall A) (Env.mk (sp [(1, (x6.1.g 1)), (0, (x6.1.g 2)), (0, (x6.1.g 3)), (3, (n64 0))] 24) (x6.1).df) x6.2)) (fun (x6 : (Res × St)) => (some x6)) x5)))))))
theorem b16 (M : Mode) (call : CallT) (dcall : DcallT) (a0 a1 a2 : D) (A : St) : bodyN M Tryz.prog rxHint kk call dcall 16 [a0, a1, a2] A = f16 M call dcall a0.canon a1.canon a2.canon A := by
  kernel_rfl
theorem r16 (a0 a1 a2 : D) (A : St) : Run Tryz.prog rxA 16 [a0, a1, a2] A = f16 mL (Run Tryz.prog rxA) (Dcall Tryz.prog rxA) a0.canon a1.canon a2.canon A := (Run_eqN Tryz.prog rxA kk rfl rfl _ _).trans (b16 mL (Run Tryz.prog rxA) (Dcall Tryz.prog rxA) a0 a1 a2 A)
noncomputable def f17 (M : Mode) (call : CallT) (dcall : DcallT) (a0 : D) (A : St) : (Option (Res × St)) :=
(bn (allocO [(n64 0), (D.str []), (D.sl Own.full 0 [])] A) fun x0 =>
(bn (call 38 [a0] x0.2) fun x1 =>
(Res.elim x1.1 (fun x2 => (bn (extractD x2 0) fun x3 =>
(bn (extractD x2 1) fun x4 =>
(bn (extractD x2 2) fun x5 =>
(bn (extractD x2 3) fun x6 =>
(bn (binO .neq 3 true x6 (n64 0)) fun x7 =>
(bn (D.bool? x7) fun x8 =>
(ifb x8 (bn (mp (storeO true 3 x0.1 (D.agg [(n64 0), (D.str []), (D.sl Own.full 0 [])]) x1.2) fun x9 => ((D.tup []), x9)) fun x9 =>
(bn (mp (Option.map packD (Option.bind (loadO true 3 x0.1 x9.2) (fun x10 => (some [x10, x4, x5, x6])))) fun x10 => ((Res.ret x10), x9.2)) fun x10 =>
(leaveM M RetK.can A x10.1 x10.2)))
(bn (call 39 [x3] x1.2) fun x9 =>
(Res.elim x9.1 (fun x10 => (bn (call 40 [x10] x9.2) fun x11 =>
(Res.elim x11.1 (fun x12 => (bn (extractD x12 0) fun x13 =>
(bn (extractD x12 1) fun x14 =>
(bn (extractD x12 2) fun x15 =>
(bn (allocO [(n64 0), (D.str []), (D.sl Own.full 0 [])] x11.2) fun x16 =>
(bn (mp (storeO true 3 x16.1 x13 x16.2) fun x17 => ((D.tup []), x17)) fun x17 =>
(bn (binO .eql 3 true x15 (n64 0)) fun x18 =>
(bn (D.bool? x18) fun x19 =>
(ifb x19 (bn (mp (loadO true 3 x16.1 x17.2) fun x20 => (x20, x17.2)) fun x20 =>
(bn (mp (storeO true 3 x0.1 x20.1 x20.2) fun x21 => ((D.tup []), x21)) fun x21 =>
(bn (mp (Option.map packD (Option.bind (loadO true 3 x0.1 x21.2) (fun x22 => (some [x22, (n64 0), (n64 0), x15])))) fun x22 => ((Res.ret x22), x21.2)) fun x22 =>
(leaveM M RetK.can A x22.1 x22.2))))
(bn (binO .eql 3 true x15 (n64 3)) fun x20 =>
(bn (guardB false x20) fun x21 =>
(bn (ifb x21 (some x15)
(some (D.tup []))) fun x22 =>
(bn (guardB false x20) fun x23 =>
(bn (ifb x23 (binO .eql 3 true x22 (n64 91))
(some (D.tup []))) fun x24 =>
(bn (guardB false x20) fun x25 =>
(bn (ifb x25 (some x24)
(some (D.tup []))) fun x26 =>
(bn (guardB true x26) fun x27 =>
(bn (ifb x27 (some x14)
(some (D.tup []))) fun x28 =>
(bn (guardB true x26) fun x29 =>
(bn (ifb x29 (binO .eql 3 true x28 (n64 0))
(some (D.tup []))) fun x30 =>
(bn (guardB false x20) fun x31 =>
(bn (ifb x31 (mp (D.bool? x26) fun x32 => (ifb x32 x30
(D.bool false)))
(some (D.tup []))) fun x32 =>
(bn (mp (D.bool? x20) fun x33 => (ifb x33 (D.bool true)
 x32)) fun x33 =>
(bn (D.bool? x33) fun x34 =>
(ifb x34 (bn (mp (storeO true 3 x0.1 (D.agg [(n64 0), (D.str []), (D.sl Own.full 0 [])]) x17.2) fun x35 => ((D.tup []), x35)) fun x35 =>
(bn (mp (Option.map packD (Option.bind (loadO true 3 x0.1 x35.2) (fun x36 => (some [x36, (n64 0), (n64 0), x15])))) fun x36 => ((Res.ret x36), x35.2)) fun x36 =>
(leaveM M RetK.can A x36.1 x36.2)))
(bn (lenSlO x10) fun x35 =>
(bn (binO .eql 3 true x35 (n64 0)) fun x36 =>
(bn (D.bool? x36) fun x37 =>
(ifb x37 (bn (mp (storeO true 3 x0.1 (D.agg [(n64 0), (D.str []), (D.sl Own.full 0 [])]) x17.2) fun x38 => ((D.tup []), x38)) fun x38 =>
(bn (mp (Option.map packD (Option.bind (loadO true 3 x0.1 x38.2) (fun x39 => (some [x39, (n64 1), (n64 1), x15])))) fun x39 => ((Res.ret x39), x38.2)) fun x39 =>
(leaveM M RetK.can A x39.1 x39.2)))
(bn (lenSlO x10) fun x38 =>
(bn (binO .lss 3 false x14 x38) fun x39 =>
(bn (D.bool? x39) fun x40 =>
(ifb x40 (bn (indexAddrO 3 true x10 x14) fun x41 =>
(bn (fieldAddrO 1 x41) fun x42 =>
(bn (mp (mp (loadO false 1 x42 x17.2) fun x43 => (x43, x17.2)) fun x43 => x43.1) fun x43 =>
(bn (indexAddrO 3 true x10 x14) fun x44 =>
(bn (fieldAddrO 2 x44) fun x45 =>
(bn (mp (mp (loadO false 1 x45 x17.2) fun x46 => (x46, x17.2)) fun x46 => x46.1) fun x46 =>
(bn (mp (storeO true 3 x0.1 (D.agg [(n64 0), (D.str []), (D.sl Own.full 0 [])]) x17.2) fun x47 => ((D.tup []), x47)) fun x47 =>
(@Mode.gs M (Res × St) ((sameAd x42 x17.2 x47.2) ∧ ((sameAd x45 x17.2 x47.2) ∧ True)) (Bool.and (sameAdB x42 x17.2 x47.2) (Bool.and (sameAdB x45 x17.2 x47.2) true)) (bn (mp (Option.map packD (Option.bind (loadO true 3 x0.1 x47.2) (fun x48 => (some [x48, x43, x46, x15])))) fun x48 => ((Res.ret x48), x47.2)) fun x48 =>
(leaveM M RetK.can A x48.1 x48.2))))))))))
(bn (lenSlO x10) fun x41 =>
(bn (binO .sub 3 true x41 (n64 1)) fun x42 =>
(bn (indexAddrO 3 true x10 x42) fun x43 =>
(bn (mp (loadO true 3 x43 x17.2) fun x44 => (x44, x17.2)) fun x44 =>
(bn (allocO [(D.str []), (n64 0), (n64 0)] x44.2) fun x45 =>
(bn (mp (storeO true 3 x45.1 x44.1 x45.2) fun x46 => ((D.tup []), x46)) fun x46 =>
(bn (fieldAddrO 1 x45.1) fun x47 =>
(bn (mp (mp (loadO false 1 x47 x46.2) fun x48 => (x48, x46.2)) fun x48 => x48.1) fun x48 =>
(bn (fieldAddrO 2 x45.1) fun x49 =>
(bn (mp (mp (loadO false 1 x49 x46.2) fun x50 => (x50, x46.2)) fun x50 => x50.1) fun x50 =>
(bn (fieldAddrO 0 x45.1) fun x51 =>
(bn (mp (mp (loadO false 1 x51 x46.2) fun x52 => (x52, x46.2)) fun x52 => x52.1) fun x52 =>
(bn (lenStrO x52) fun x53 =>
(bn (binO .add 3 false x50 x53) fun x54 =>
(bn (mp (storeO true 3 x0.1 (D.agg [(n64 0), (D.str []), (D.sl Own.full 0 [])]) x46.2) fun x55 => ((D.tup []), x55)) fun x55 =>
(@Mode.gs M (Res × St) ((sameAd x47 x46.2 x55.2) ∧ ((sameAd x49 x46.2 x55.2) ∧ ((sameAd x51 x46.2 x55.2) ∧ True))) (Bool.and (sameAdB x47 x46.2 x55.2) (Bool.and (sameAdB x49 x46.2 x55.2) (Bool.and (sameAdB x51 x46.2 x55.2) true))) (bn (mp (Option.map packD (Option.bind (loadO true 3 x0.1 x55.2) (fun x56 => (some [x56, x48, x54, x15])))) fun x56 => ((Res.ret x56), x55.2)) fun x56 =>
(leaveM M RetK.can A x56.1 x56.2))))))))))))))))))))))))))))))))))))))))))))))))))) (fun x12 => (leaveM M RetK.can A (Res.pan x12) x11.2))))) (fun x10 => (leaveM M RetK.can A (Res.pan x10) x9.2)))))))))))) (fun x2 => (leaveM M RetK.can A (Res.pan x2) x1.2)))))
theorem b17 (M : Mode) (call : CallT) (dcall : DcallT) (a0 : D) (A : St) : bodyN M Tryz.prog rxHint kk call dcall 17 [a0] A = f17 M call dcall a0.canon A := by
  kernel_rfl
noncomputable def f18 (M : Mode) (call : CallT) (dcall : DcallT) (a0 : D) (A : St) : (Option (Res × St)) :=
(bn (boxO true a0 A) fun x0 =>
(bn (mp (loadO true 3 x0.1 x0.2) fun x1 => (x1, x0.2)) fun x1 =>
(bn (call 11 [x1.1] x1.2) fun x2 =>
(Res.elim x2.1 (fun x3 => (bn (binO .neq 3 true x3 (n64 0)) fun x4 =>
(bn (D.bool? x4) fun x5 =>
(ifb x5 (leaveM M RetK.can A (Res.ret (D.tup [(D.str []), x3])) x2.2)
(bn (mp (loadO true 3 x0.1 x2.2) fun x6 => (x6, x2.2)) fun x6 =>
(bn (call 42 [x6.1, (n64 1)] x6.2) fun x7 =>
(Res.elim x7.1 (fun x8 => (bn (call 41 [x8] x7.2) fun x9 =>
(Res.elim x9.1 (fun x10 => (bn (extractD x10 0) fun x11 =>
(bn (extractD x10 1) fun x12 =>
(leaveM M RetK.can A (Res.ret (D.tup [x11, x12])) x9.2)))) (fun x10 => (leaveM M RetK.can A (Res.pan x10) x9.2))))) (fun x8 => (leaveM M RetK.can A (Res.pan x8) x7.2))))))))) (fun x3 => (leaveM M RetK.can A (Res.pan x3) x2.2))))))
theorem b18 (M : Mode) (call : CallT) (dcall : DcallT) (a0 : D) (A : St) : bodyN M Tryz.prog rxHint kk call dcall 18 [a0] A = f18 M call dcall a0.canon A := by
  kernel_rfl
noncomputable def f19_s0 (M : Mode) (call : CallT) (dcall : DcallT) (A : St) (e : Env) (Av5 : St) : (Option ((Env × St) ⊕ (Res × St))) :=
(bn (binO .lss 3 false (e.g 12) (e.g 11)) fun x0 =>
(bn (D.bool? x0) fun x1 =>
(ifb x1 (bn (indexAddrO 3 true (e.g 10) (e.g 12)) fun x2 =>
(bn (mp (loadO true 3 x2 Av5) fun x3 => (x3, Av5)) fun x3 =>
(bn (allocO [(n64 0), (D.str []), (D.sl Own.full 0 [])] x3.2) fun x4 =>
(bn (mp (storeO true 3 x4.1 x3.1 x4.2) fun x5 => ((D.tup []), x5)) fun x5 =>
(bn (binO .lss 3 true (e.g 1) (n64 0)) fun x6 =>
(bn (D.bool? x6) fun x7 =>
(ifb x7 (Option.map (Sum.inr ) (bn (leavesD dcall (fun (x8 : St) => (some (e.g 1))) (e).df none x5.2) fun x8 =>
(leaveM M RetK.can A x8.1 x8.2)))
(bn (mp (loadO true 3 x4.1 x5.2) fun x8 => (x8, x5.2)) fun x8 =>
(bn (call 19 [x8.1, (e.g 1)] x8.2) fun x9 =>
(Res.elim x9.1 (fun x10 => (bn (binO .add 3 true (e.g 12) (n64 1)) fun x11 =>
(@Mode.gk M ((Env × St) ⊕ (Res × St)) Av5 x9.2 (some (Sum.inl ((Env.mk (sp [(1, (D.shut (List.length Av5) x10)), (8, (D.shut (List.length Av5) (e.g 10))), (0, (D.shut (List.length Av5) (e.g 11))), (0, (D.shut (List.length Av5) x11))] 11) (List.map (fun (x12 : (D × (List D))) => ((D.shut (List.length Av5) x12.1), (D.shutL (List.length Av5) x12.2))) (e).df)), (List.take (List.length Av5) x9.2))))))) (fun x10 => (Option.map (Sum.inr ) (bn (leavesD dcall (fun (x11 : St) => (some (e.g 4))) (e).df (some x10) x9.2) fun x11 =>
(leaveM M RetK.can A x11.1 x11.2))))))))))))))
(Option.map (Sum.inr ) (bn (leavesD dcall (fun (x2 : St) => (some (e.g 1))) (e).df none Av5) fun x2 =>
(leaveM M RetK.can A x2.1 x2.2))))))
noncomputable def f19 (M : Mode) (call : CallT) (dcall : DcallT) (a0 : D) (a1 : D) (A : St) : (Option (Res × St)) :=
(bn (boxO true a0 A) fun x0 =>
(bn (binO .sub 3 true a1 (n64 1)) fun x1 =>
(bn (fieldAddrO 2 x0.1) fun x2 =>
(bn (mp (loadO false 1 x2 x0.2) fun x3 => (x3, x0.2)) fun x3 =>
(bn (lenSlO x3.1) fun x4 =>
(@Mode.it M (Res × St) (f19_s0 M call dcall A) (Env.mk (sp [(1, x1), (8, x3.1), (0, x4), (0, (n64 0))] 11) []) x3.2))))))
theorem b19 (M : Mode) (call : CallT) (dcall : DcallT) (a0 a1 : D) (A : St) : bodyN M Tryz.prog rxHint kk call dcall 19 [a0, a1] A = f19 M call dcall a0.canon a1.canon A := by
  kernel_rfl
theorem r19 (a0 a1 : D) (A : St) : Run Tryz.prog rxA 19 [a0, a1] A = f19 mL (Run Tryz.prog rxA) (Dcall Tryz.prog rxA) a0.canon a1.canon A := (Run_eqN Tryz.prog rxA kk rfl rfl _ _).trans (b19 mL (Run Tryz.prog rxA) (Dcall Tryz.prog rxA) a0 a1 A)
noncomputable def f20_s0 (M : Mode) (call : CallT) (dcall : DcallT) (A : St) (e : Env) (Av5 : St) : (Option ((Env × St) ⊕ (Res × St))) :=
(bn (binO .lss 3 false (e.g 25) (e.g 24)) fun x0 =>
(bn (D.bool? x0) fun x1 =>
(ifb x1 (bn (indexAddrO 3 true (e.g 23) (e.g 25)) fun x2 =>
(bn (mp (loadO true 3 x2 Av5) fun x3 => (x3, Av5)) fun x3 =>
(bn (allocO [(n64 0), (D.str []), (D.sl Own.full 0 [])] x3.2) fun x4 =>
(bn (mp (storeO true 3 x4.1 x3.1 x4.2) fun x5 => ((D.tup []), x5)) fun x5 =>
(bn (mp (loadO true 3 x4.1 x5.2) fun x6 => (x6, x5.2)) fun x6 =>
(bn (binO .sub 3 false (e.g 1) (e.g 9)) fun x7 =>
(bn (binO .sub 3 true (e.g 2) (n64 1)) fun x8 =>
(bn (call 20 [x6.1, x7, x8] x6.2) fun x9 =>
(Res.elim x9.1 (fun x10 => (bn (extractD x10 0) fun x11 =>
(bn (extractD x10 1) fun x12 =>
(bn (extractD x10 2) fun x13 =>
(bn (unD UnOp.not x13) fun x14 =>
(bn (D.bool? x14) fun x15 =>
(ifb x15 (Option.map (Sum.inr ) (bn (leavesD dcall (fun (x16 : St) => (some (D.tup [(n64 0), (n64 0), (D.bool false)]))) (e).df none x9.2) fun x16 =>
(leaveM M RetK.can A x16.1 x16.2)))
(bn (binO .add 3 false (e.g 9) x11) fun x16 =>
(bn (minMaxD true [(e.g 10), x12]) fun x17 =>
(bn (binO .add 3 true (e.g 25) (n64 1)) fun x18 =>
(@Mode.gk M ((Env × St) ⊕ (Res × St)) Av5 x9.2 (some (Sum.inl ((Env.mk (sp [(1, (D.shut (List.length Av5) (e.g 1))), (0, (D.shut (List.length Av5) (e.g 2))), (6, (D.shut (List.length Av5) x16)), (0, (D.shut (List.length Av5) x17)), (12, (D.shut (List.length Av5) (e.g 23))), (0, (D.shut (List.length Av5) (e.g 24))), (0, (D.shut (List.length Av5) x18))] 26) (List.map (fun (x19 : (D × (List D))) => ((D.shut (List.length Av5) x19.1), (D.shutL (List.length Av5) x19.2))) (e).df)), (List.take (List.length Av5) x9.2))))))))))))))) (fun x10 => (Option.map (Sum.inr ) (bn (leavesD dcall (fun (x11 : St) => (some (D.tup [(e.g 6), (e.g 7), (e.g 8)]))) (e).df (some x10) x9.2) fun x11 =>
(leaveM M RetK.can A x11.1 x11.2)))))))))))))
(Option.map (Sum.inr ) (bn (binO .add 3 true (e.g 10) (n64 1)) fun x2 =>
(bn (leavesD dcall (fun (x3 : St) => (some (D.tup [(e.g 9), x2, (D.bool true)]))) (e).df none Av5) fun x3 =>
(leaveM M RetK.can A x3.1 x3.2)))))))
noncomputable def f20 (M : Mode) (call : CallT) (dcall : DcallT) (a0 : D) (a1 : D) (a2 : D) (A : St) : (Option (Res × St)) :=
(bn (boxO true a0 A) fun x0 =>
(bn (binO .lss 3 true a1 (n64 1)) fun x1 =>
(bn (guardB false x1) fun x2 =>
(bn (ifb x2 (some a2)
(some (D.tup []))) fun x3 =>
(bn (guardB false x1) fun x4 =>
(bn (ifb x4 (binO .lss 3 true x3 (n64 1))
(some (D.tup []))) fun x5 =>
(bn (mp (D.bool? x1) fun x6 => (ifb x6 (D.bool true)
 x5)) fun x6 =>
(bn (D.bool? x6) fun x7 =>
(ifb x7 (leaveM M RetK.can A (Res.ret (D.tup [(n64 0), (n64 0), (D.bool false)])) x0.2)
(bn (fieldAddrO 2 x0.1) fun x8 =>
(bn (mp (loadO false 1 x8 x0.2) fun x9 => (x9, x0.2)) fun x9 =>
(bn (lenSlO x9.1) fun x10 =>
(@Mode.it M (Res × St) (f20_s0 M call dcall A) (Env.mk (sp [(1, a1), (0, a2), (6, (n64 1)), (0, (n64 0)), (12, x9.1), (0, x10), (0, (n64 0))] 26) []) x9.2)))))))))))))
theorem b20 (M : Mode) (call : CallT) (dcall : DcallT) (a0 a1 a2 : D) (A : St) : bodyN M Tryz.prog rxHint kk call dcall 20 [a0, a1, a2] A = f20 M call dcall a0.canon a1.canon a2.canon A := by
  kernel_rfl
theorem r20 (a0 a1 a2 : D) (A : St) : Run Tryz.prog rxA 20 [a0, a1, a2] A = f20 mL (Run Tryz.prog rxA) (Dcall Tryz.prog rxA) a0.canon a1.canon a2.canon A := (Run_eqN Tryz.prog rxA kk rfl rfl _ _).trans (b20 mL (Run Tryz.prog rxA) (Dcall Tryz.prog rxA) a0 a1 a2 A)
noncomputable def f21 (M : Mode) (call : CallT) (dcall : DcallT) (a0 : D) (A : St) : (Option (Res × St)) :=
(bn (boxO true a0 A) fun x0 =>
(bn (fieldAddrO 0 x0.1) fun x1 =>
(bn (mp (loadO false 1 x1 x0.2) fun x2 => (x2, x0.2)) fun x2 =>
(bn (binO .eql 3 true x2.1 (n64 1)) fun x3 =>
(bn (D.bool? x3) fun x4 =>
(ifb x4 (bn (fieldAddrO 1 x0.1) fun x5 =>
(bn (mp (loadO false 1 x5 x2.2) fun x6 => (x6, x2.2)) fun x6 =>
(bn (binO .neq 3 true x6.1 (D.str [])) fun x7 =>
(bn (binO .neq 0 false (D.bool true) x7) fun x8 =>
(bn (guardB false x8) fun x9 =>
(bn (ifb x9 (some (D.bool true))
(some (D.tup []))) fun x10 =>
(bn (guardB false x8) fun x11 =>
(bn (ifb x11 (some x10)
(some (D.tup []))) fun x12 =>
(bn (guardB true x12) fun x13 =>
(bn (ifb x13 (fieldAddrO 1 x0.1)
(some (D.tup []))) fun x14 =>
(bn (guardB true x12) fun x15 =>
(bn (ifb x15 (mp (loadO false 1 x14 x6.2) fun x16 => (x16, x6.2))
(some ((D.tup []), x6.2))) fun x16 =>
(bn (guardB true x12) fun x17 =>
(bn (ifb x17 (call 43 [x16.1] x16.2)
(some ((Res.ret (D.tup [])), x16.2))) fun x18 =>
(Res.elim x18.1 (fun x19 => (bn (guardB true x12) fun x20 =>
(bn (ifb x20 (unD UnOp.not x19)
(some (D.tup []))) fun x21 =>
(bn (guardB false x8) fun x22 =>
(bn (ifb x22 (mp (D.bool? x12) fun x23 => (ifb x23 x21
(D.bool false)))
(some (D.tup []))) fun x23 =>
(bn (mp (D.bool? x8) fun x24 => (ifb x24 (D.bool true)
 x23)) fun x24 =>
(bn (guardB false x24) fun x25 =>
(bn (ifb x25 (some (D.bool true))
(some (D.tup []))) fun x26 =>
(bn (guardB false x24) fun x27 =>
(bn (ifb x27 (some x26)
(some (D.tup []))) fun x28 =>
(bn (guardB true x28) fun x29 =>
(bn (ifb x29 (fieldAddrO 2 x0.1)
(some (D.tup []))) fun x30 =>
(bn (guardB true x28) fun x31 =>
(bn (ifb x31 (mp (loadO false 1 x30 x18.2) fun x32 => (x32, x18.2))
(some ((D.tup []), x18.2))) fun x32 =>
(bn (guardB true x28) fun x33 =>
(bn (ifb x33 (lenSlO x32.1)
(some (D.tup []))) fun x34 =>
(bn (guardB true x28) fun x35 =>
(bn (ifb x35 (binO .gtr 3 true x34 (n64 0))
(some (D.tup []))) fun x36 =>
(bn (guardB false x24) fun x37 =>
(bn (ifb x37 (mp (D.bool? x28) fun x38 => (ifb x38 x36
(D.bool false)))
(some (D.tup []))) fun x38 =>
(bn (mp (D.bool? x24) fun x39 => (ifb x39 (D.bool true)
 x38)) fun x39 =>
(bn (D.bool? x39) fun x40 =>
(ifb x40 (leaveM M RetK.can A (Res.ret (D.bool false)) x32.2)
(bn (fieldAddrO 2 x0.1) fun x41 =>
(bn (mp (loadO false 1 x41 x32.2) fun x42 => (x42, x32.2)) fun x42 =>
(bn (call 44 [x42.1, (D.fn (Fn.func 45) [] [x0.1])] x42.2) fun x43 =>
(Res.elim x43.1 (fun x44 => (bn (unD UnOp.not x44) fun x45 =>
(leaveM M RetK.can A (Res.ret x45) x43.2))) (fun x44 => (leaveM M RetK.can A (Res.pan x44) x43.2))))))))))))))))))))))))))))) (fun x19 => (leaveM M RetK.can A (Res.pan x19) x18.2)))))))))))))))))
(bn (binO .eql 3 true x2.1 (n64 2)) fun x5 =>
(bn (D.bool? x5) fun x6 =>
(ifb x6 (bn (fieldAddrO 1 x0.1) fun x7 =>
(bn (mp (loadO false 1 x7 x2.2) fun x8 => (x8, x2.2)) fun x8 =>
(bn (binO .neq 3 true x8.1 (D.str [])) fun x9 =>
(bn (binO .neq 0 false (D.bool true) x9) fun x10 =>
(bn (guardB false x10) fun x11 =>
(bn (ifb x11 (some (D.bool true))
(some (D.tup []))) fun x12 =>
(bn (guardB false x10) fun x13 =>
(bn (ifb x13 (some x12)
(some (D.tup []))) fun x14 =>
(bn (guardB true x14) fun x15 =>
(bn (ifb x15 (fieldAddrO 1 x0.1)
(some (D.tup []))) fun x16 =>
(bn (guardB true x14) fun x17 =>
(bn (ifb x17 (mp (loadO false 1 x16 x8.2) fun x18 => (x18, x8.2))
(some ((D.tup []), x8.2))) fun x18 =>
(bn (guardB true x14) fun x19 =>
(bn (ifb x19 (call 43 [x18.1] x18.2)
(some ((Res.ret (D.tup [])), x18.2))) fun x20 =>
(Res.elim x20.1 (fun x21 => (bn (guardB true x14) fun x22 =>
(bn (ifb x22 (unD UnOp.not x21)
(some (D.tup []))) fun x23 =>
(bn (guardB false x10) fun x24 =>
(bn (ifb x24 (mp (D.bool? x14) fun x25 => (ifb x25 x23
(D.bool false)))
(some (D.tup []))) fun x25 =>
(bn (mp (D.bool? x10) fun x26 => (ifb x26 (D.bool true)
 x25)) fun x26 =>
(bn (guardB false x26) fun x27 =>
(bn (ifb x27 (some (D.bool true))
(some (D.tup []))) fun x28 =>
(bn (guardB false x26) fun x29 =>
(bn (ifb x29 (some x28)
(some (D.tup []))) fun x30 =>
(bn (guardB true x30) fun x31 =>
(bn (ifb x31 (fieldAddrO 2 x0.1)
(some (D.tup []))) fun x32 =>
(bn (guardB true x30) fun x33 =>
(bn (ifb x33 (mp (loadO false 1 x32 x20.2) fun x34 => (x34, x20.2))
(some ((D.tup []), x20.2))) fun x34 =>
(bn (guardB true x30) fun x35 =>
(bn (ifb x35 (lenSlO x34.1)
(some (D.tup []))) fun x36 =>
(bn (guardB true x30) fun x37 =>
(bn (ifb x37 (binO .gtr 3 true x36 (n64 0))
(some (D.tup []))) fun x38 =>
(bn (guardB false x26) fun x39 =>
(bn (ifb x39 (mp (D.bool? x30) fun x40 => (ifb x40 x38
(D.bool false)))
(some (D.tup []))) fun x40 =>
(bn (mp (D.bool? x26) fun x41 => (ifb x41 (D.bool true)
 x40)) fun x41 =>
(bn (D.bool? x41) fun x42 =>
(ifb x42 (leaveM M RetK.can A (Res.ret (D.bool false)) x34.2)
(bn (fieldAddrO 2 x0.1) fun x43 =>
(bn (mp (loadO false 1 x43 x34.2) fun x44 => (x44, x34.2)) fun x44 =>
(bn (call 44 [x44.1, (D.fn (Fn.func 45) [] [x0.1])] x44.2) fun x45 =>
(Res.elim x45.1 (fun x46 => (bn (unD UnOp.not x46) fun x47 =>
(leaveM M RetK.can A (Res.ret x47) x45.2))) (fun x46 => (leaveM M RetK.can A (Res.pan x46) x45.2))))))))))))))))))))))))))))) (fun x21 => (leaveM M RetK.can A (Res.pan x21) x20.2)))))))))))))))))
(bn (binO .eql 3 true x2.1 (n64 3)) fun x7 =>
(bn (D.bool? x7) fun x8 =>
(ifb x8 (bn (fieldAddrO 1 x0.1) fun x9 =>
(bn (mp (loadO false 1 x9 x2.2) fun x10 => (x10, x2.2)) fun x10 =>
(bn (binO .neq 3 true x10.1 (D.str [])) fun x11 =>
(bn (binO .neq 0 false (D.bool false) x11) fun x12 =>
(bn (guardB false x12) fun x13 =>
(bn (ifb x13 (some (D.bool false))
(some (D.tup []))) fun x14 =>
(bn (guardB false x12) fun x15 =>
(bn (ifb x15 (some x14)
(some (D.tup []))) fun x16 =>
(bn (guardB true x16) fun x17 =>
(bn (ifb x17 (fieldAddrO 1 x0.1)
(some (D.tup []))) fun x18 =>
(bn (guardB true x16) fun x19 =>
(bn (ifb x19 (mp (loadO false 1 x18 x10.2) fun x20 => (x20, x10.2))
(some ((D.tup []), x10.2))) fun x20 =>
(bn (guardB true x16) fun x21 =>
(bn (ifb x21 (call 43 [x20.1] x20.2)
(some ((Res.ret (D.tup [])), x20.2))) fun x22 =>
(Res.elim x22.1 (fun x23 => (bn (guardB true x16) fun x24 =>
(bn (ifb x24 (unD UnOp.not x23)
(some (D.tup []))) fun x25 =>
(bn (guardB false x12) fun x26 =>
(bn (ifb x26 (mp (D.bool? x16) fun x27 => (ifb x27 x25
(D.bool false)))
(some (D.tup []))) fun x27 =>
(bn (mp (D.bool? x12) fun x28 => (ifb x28 (D.bool true)
 x27)) fun x28 =>
(bn (guardB false x28) fun x29 =>
(bn (ifb x29 (some (D.bool true))
(some (D.tup []))) fun x30 =>
(bn (guardB false x28) fun x31 =>
(bn (ifb x31 (some x30)
(some (D.tup []))) fun x32 =>
(bn (guardB true x32) fun x33 =>
(bn (ifb x33 (fieldAddrO 2 x0.1)
(some (D.tup []))) fun x34 =>
(bn (guardB true x32) fun x35 =>
(bn (ifb x35 (mp (loadO false 1 x34 x22.2) fun x36 => (x36, x22.2))
(some ((D.tup []), x22.2))) fun x36 =>
(bn (guardB true x32) fun x37 =>
(bn (ifb x37 (lenSlO x36.1)
(some (D.tup []))) fun x38 =>
(bn (guardB true x32) fun x39 =>
(bn (ifb x39 (binO .gtr 3 true x38 (n64 0))
(some (D.tup []))) fun x40 =>
(bn (guardB false x28) fun x41 =>
(bn (ifb x41 (mp (D.bool? x32) fun x42 => (ifb x42 x40
(D.bool false)))
(some (D.tup []))) fun x42 =>
(bn (mp (D.bool? x28) fun x43 => (ifb x43 (D.bool true)
 x42)) fun x43 =>
(bn (D.bool? x43) fun x44 =>
(ifb x44 (leaveM M RetK.can A (Res.ret (D.bool false)) x36.2)
(bn (fieldAddrO 2 x0.1) fun x45 =>
(bn (mp (loadO false 1 x45 x36.2) fun x46 => (x46, x36.2)) fun x46 =>
(bn (call 44 [x46.1, (D.fn (Fn.func 45) [] [x0.1])] x46.2) fun x47 =>
(Res.elim x47.1 (fun x48 => (bn (unD UnOp.not x48) fun x49 =>
(leaveM M RetK.can A (Res.ret x49) x47.2))) (fun x48 => (leaveM M RetK.can A (Res.pan x48) x47.2))))))))))))))))))))))))))))) (fun x23 => (leaveM M RetK.can A (Res.pan x23) x22.2)))))))))))))))))
(bn (binO .eql 3 true x2.1 (n64 4)) fun x9 =>
(bn (D.bool? x9) fun x10 =>
(ifb x10 (bn (fieldAddrO 2 x0.1) fun x11 =>
(bn (mp (loadO false 1 x11 x2.2) fun x12 => (x12, x2.2)) fun x12 =>
(bn (lenSlO x12.1) fun x13 =>
(bn (binO .neq 3 true x13 (n64 1)) fun x14 =>
(bn (unD UnOp.not x14) fun x15 =>
(bn (guardB false x15) fun x16 =>
(bn (ifb x16 (some (D.bool false))
(some (D.tup []))) fun x17 =>
(bn (guardB false x15) fun x18 =>
(bn (ifb x18 (fieldAddrO 1 x0.1)
(some (D.tup []))) fun x19 =>
(bn (guardB false x15) fun x20 =>
(bn (ifb x20 (mp (loadO false 1 x19 x12.2) fun x21 => (x21, x12.2))
(some ((D.tup []), x12.2))) fun x21 =>
(bn (guardB false x15) fun x22 =>
(bn (ifb x22 (binO .neq 3 true x21.1 (D.str []))
(some (D.tup []))) fun x23 =>
(bn (guardB false x15) fun x24 =>
(bn (ifb x24 (binO .neq 0 false x17 x23)
(some (D.tup []))) fun x25 =>
(bn (mp (D.bool? x15) fun x26 => (ifb x26 (D.bool true)
 x25)) fun x26 =>
(bn (guardB false x26) fun x27 =>
(bn (ifb x27 (some (D.bool false))
(some (D.tup []))) fun x28 =>
(bn (guardB false x26) fun x29 =>
(bn (ifb x29 (some x28)
(some (D.tup []))) fun x30 =>
(bn (guardB true x30) fun x31 =>
(bn (ifb x31 (fieldAddrO 1 x0.1)
(some (D.tup []))) fun x32 =>
(bn (guardB true x30) fun x33 =>
(bn (ifb x33 (mp (loadO false 1 x32 x21.2) fun x34 => (x34, x21.2))
(some ((D.tup []), x21.2))) fun x34 =>
(bn (guardB true x30) fun x35 =>
(bn (ifb x35 (call 43 [x34.1] x34.2)
(some ((Res.ret (D.tup [])), x34.2))) fun x36 =>
(Res.elim x36.1 (fun x37 => (bn (guardB true x30) fun x38 =>
(bn (ifb x38 (unD UnOp.not x37)
(some (D.tup []))) fun x39 =>
(bn (guardB false x26) fun x40 =>
(bn (ifb x40 (mp (D.bool? x30) fun x41 => (ifb x41 x39
(D.bool false)))
(some (D.tup []))) fun x41 =>
(bn (mp (D.bool? x26) fun x42 => (ifb x42 (D.bool true)
 x41)) fun x42 =>
(bn (guardB false x42) fun x43 =>
(bn (ifb x43 (some (D.bool false))
(some (D.tup []))) fun x44 =>
(bn (guardB false x42) fun x45 =>
(bn (ifb x45 (some x44)
(some (D.tup []))) fun x46 =>
(bn (guardB true x46) fun x47 =>
(bn (ifb x47 (fieldAddrO 2 x0.1)
(some (D.tup []))) fun x48 =>
(bn (guardB true x46) fun x49 =>
(bn (ifb x49 (mp (loadO false 1 x48 x36.2) fun x50 => (x50, x36.2))
(some ((D.tup []), x36.2))) fun x50 =>
(bn (guardB true x46) fun x51 =>
(bn (ifb x51 (lenSlO x50.1)
(some (D.tup []))) fun x52 =>
(bn (guardB true x46) fun x53 =>
(bn (ifb x53 (binO .gtr 3 true x52 (n64 0))
(some (D.tup []))) fun x54 =>
(bn (guardB false x42) fun x55 =>
(bn (ifb x55 (mp (D.bool? x46) fun x56 => (ifb x56 x54
(D.bool false)))
(some (D.tup []))) fun x56 =>
(bn (mp (D.bool? x42) fun x57 => (ifb x57 (D.bool true)
 x56)) fun x57 =>
(bn (D.bool? x57) fun x58 =>
(ifb x58 (leaveM M RetK.can A (Res.ret (D.bool false)) x50.2)
(bn (fieldAddrO 2 x0.1) fun x59 =>
(bn (mp (loadO false 1 x59 x50.2) fun x60 => (x60, x50.2)) fun x60 =>
(bn (call 44 [x60.1, (D.fn (Fn.func 45) [] [x0.1])] x60.2) fun x61 =>
(Res.elim x61.1 (fun x62 => (bn (unD UnOp.not x62) fun x63 =>
(leaveM M RetK.can A (Res.ret x63) x61.2))) (fun x62 => (leaveM M RetK.can A (Res.pan x62) x61.2))))))))))))))))))))))))))))) (fun x37 => (leaveM M RetK.can A (Res.pan x37) x36.2)))))))))))))))))))))))))))))
(bn (binO .eql 3 true x2.1 (n64 5)) fun x11 =>
(bn (D.bool? x11) fun x12 =>
(ifb x12 (bn (fieldAddrO 2 x0.1) fun x13 =>
(bn (mp (loadO false 1 x13 x2.2) fun x14 => (x14, x2.2)) fun x14 =>
(bn (lenSlO x14.1) fun x15 =>
(bn (binO .gtr 3 true x15 (n64 1)) fun x16 =>
(bn (unD UnOp.not x16) fun x17 =>
(bn (guardB false x17) fun x18 =>
(bn (ifb x18 (some (D.bool false))
(some (D.tup []))) fun x19 =>
(bn (guardB false x17) fun x20 =>
(bn (ifb x20 (fieldAddrO 1 x0.1)
(some (D.tup []))) fun x21 =>
(bn (guardB false x17) fun x22 =>
(bn (ifb x22 (mp (loadO false 1 x21 x14.2) fun x23 => (x23, x14.2))
(some ((D.tup []), x14.2))) fun x23 =>
(bn (guardB false x17) fun x24 =>
(bn (ifb x24 (binO .neq 3 true x23.1 (D.str []))
(some (D.tup []))) fun x25 =>
(bn (guardB false x17) fun x26 =>
(bn (ifb x26 (binO .neq 0 false x19 x25)
(some (D.tup []))) fun x27 =>
(bn (mp (D.bool? x17) fun x28 => (ifb x28 (D.bool true)
 x27)) fun x28 =>
(bn (guardB false x28) fun x29 =>
(bn (ifb x29 (some (D.bool false))
(some (D.tup []))) fun x30 =>
(bn (guardB false x28) fun x31 =>
(bn (ifb x31 (some x30)
(some (D.tup []))) fun x32 =>
(bn (guardB true x32) fun x33 =>
(bn (ifb x33 (fieldAddrO 1 x0.1)
(some (D.tup []))) fun x34 =>
(bn (guardB true x32) fun x35 =>
(bn (ifb x35 (mp (loadO false 1 x34 x23.2) fun x36 => (x36, x23.2))
(some ((D.tup []), x23.2))) fun x36 =>
(bn (guardB true x32) fun x37 =>
(bn (ifb x37 (call 43 [x36.1] x36.2)
(some ((Res.ret (D.tup [])), x36.2))) fun x38 =>
(Res.elim x38.1 (fun x39 => (bn (guardB true x32) fun x40 =>
(bn (ifb x40 (unD UnOp.not x39)
(some (D.tup []))) fun x41 =>
(bn (guardB false x28) fun x42 =>
(bn (ifb x42 (mp (D.bool? x32) fun x43 => (ifb x43 x41
(D.bool false)))
(some (D.tup []))) fun x43 =>
(bn (mp (D.bool? x28) fun x44 => (ifb x44 (D.bool true)
 x43)) fun x44 =>
(bn (guardB false x44) fun x45 =>
(bn (ifb x45 (some (D.bool false))
(some (D.tup []))) fun x46 =>
(bn (guardB false x44) fun x47 =>
(bn (ifb x47 (some x46)
(some (D.tup []))) fun x48 =>
(bn (guardB true x48) fun x49 =>
(bn (ifb x49 (fieldAddrO 2 x0.1)
(some (D.tup []))) fun x50 =>
(bn (guardB true x48) fun x51 =>
(bn (ifb x51 (mp (loadO false 1 x50 x38.2) fun x52 => (x52, x38.2))
(some ((D.tup []), x38.2))) fun x52 =>
(bn (guardB true x48) fun x53 =>
(bn (ifb x53 (lenSlO x52.1)
(some (D.tup []))) fun x54 =>
(bn (guardB true x48) fun x55 =>
(bn (ifb x55 (binO .gtr 3 true x54 (n64 0))
(some (D.tup []))) fun x56 =>
(bn (guardB false x44) fun x57 =>
(bn (ifb x57 (mp (D.bool? x48) fun x58 => (ifb x58 x56
(D.bool false)))
(some (D.tup []))) fun x58 =>
(bn (mp (D.bool? x44) fun x59 => (ifb x59 (D.bool true)
 x58)) fun x59 =>
(bn (D.bool? x59) fun x60 =>
(ifb x60 (leaveM M RetK.can A (Res.ret (D.bool false)) x52.2)
(bn (fieldAddrO 2 x0.1) fun x61 =>
(bn (mp (loadO false 1 x61 x52.2) fun x62 => (x62, x52.2)) fun x62 =>
(bn (call 44 [x62.1, (D.fn (Fn.func 45) [] [x0.1])] x62.2) fun x63 =>
(Res.elim x63.1 (fun x64 => (bn (unD UnOp.not x64) fun x65 =>
(leaveM M RetK.can A (Res.ret x65) x63.2))) (fun x64 => (leaveM M RetK.can A (Res.pan x64) x63.2))))))))))))))))))))))))))))) (fun x39 => (leaveM M RetK.can A (Res.pan x39) x38.2)))))))))))))))))))))))))))))
(bn (binO .eql 3 true x2.1 (n64 6)) fun x13 =>
(bn (D.bool? x13) fun x14 =>
(ifb x14 (bn (fieldAddrO 2 x0.1) fun x15 =>
(bn (mp (loadO false 1 x15 x2.2) fun x16 => (x16, x2.2)) fun x16 =>
(bn (lenSlO x16.1) fun x17 =>
(bn (binO .eql 3 true x17 (n64 1)) fun x18 =>
(bn (unD UnOp.not x18) fun x19 =>
(bn (guardB false x19) fun x20 =>
(bn (ifb x20 (some (D.bool false))
(some (D.tup []))) fun x21 =>
(bn (guardB false x19) fun x22 =>
(bn (ifb x22 (fieldAddrO 1 x0.1)
(some (D.tup []))) fun x23 =>
(bn (guardB false x19) fun x24 =>
(bn (ifb x24 (mp (loadO false 1 x23 x16.2) fun x25 => (x25, x16.2))
(some ((D.tup []), x16.2))) fun x25 =>
(bn (guardB false x19) fun x26 =>
(bn (ifb x26 (binO .neq 3 true x25.1 (D.str []))
(some (D.tup []))) fun x27 =>
(bn (guardB false x19) fun x28 =>
(bn (ifb x28 (binO .neq 0 false x21 x27)
(some (D.tup []))) fun x29 =>
(bn (mp (D.bool? x19) fun x30 => (ifb x30 (D.bool true)
 x29)) fun x30 =>
(bn (guardB false x30) fun x31 =>
(bn (ifb x31 (some (D.bool false))
(some (D.tup []))) fun x32 =>
(bn (guardB false x30) fun x33 =>
(bn (ifb x33 (some x32)
(some (D.tup []))) fun x34 =>
(bn (guardB true x34) fun x35 =>
(bn (ifb x35 (fieldAddrO 1 x0.1)
(some (D.tup []))) fun x36 =>
(bn (guardB true x34) fun x37 =>
(bn (ifb x37 (mp (loadO false 1 x36 x25.2) fun x38 => (x38, x25.2))
(some ((D.tup []), x25.2))) fun x38 =>
(bn (guardB true x34) fun x39 =>
(bn (ifb x39 (call 43 [x38.1] x38.2)
(some ((Res.ret (D.tup [])), x38.2))) fun x40 =>
(Res.elim x40.1 (fun x41 => (bn (guardB true x34) fun x42 =>
(bn (ifb x42 (unD UnOp.not x41)
(some (D.tup []))) fun x43 =>
(bn (guardB false x30) fun x44 =>
(bn (ifb x44 (mp (D.bool? x34) fun x45 => (ifb x45 x43
(D.bool false)))
(some (D.tup []))) fun x45 =>
(bn (mp (D.bool? x30) fun x46 => (ifb x46 (D.bool true)
 x45)) fun x46 =>
(bn (guardB false x46) fun x47 =>
(bn (ifb x47 (some (D.bool false))
(some (D.tup []))) fun x48 =>
(bn (guardB false x46) fun x49 =>
(bn (ifb x49 (some x48)
(some (D.tup []))) fun x50 =>
(bn (guardB true x50) fun x51 =>
(bn (ifb x51 (fieldAddrO 2 x0.1)
(some (D.tup []))) fun x52 =>
(bn (guardB true x50) fun x53 =>
(bn (ifb x53 (mp (loadO false 1 x52 x40.2) fun x54 => (x54, x40.2))
(some ((D.tup []), x40.2))) fun x54 =>
(bn (guardB true x50) fun x55 =>
(bn (ifb x55 (lenSlO x54.1)
(some (D.tup []))) fun x56 =>
(bn (guardB true x50) fun x57 =>
(bn (ifb x57 (binO .gtr 3 true x56 (n64 0))
(some (D.tup []))) fun x58 =>
(bn (guardB false x46) fun x59 =>
(bn (ifb x59 (mp (D.bool? x50) fun x60 => (ifb x60 x58
(D.bool false)))
(some (D.tup []))) fun x60 =>
(bn (mp (D.bool? x46) fun x61 => (ifb x61 (D.bool true)
 x60)) fun x61 =>
(bn (D.bool? x61) fun x62 =>
(ifb x62 (leaveM M RetK.can A (Res.ret (D.bool false)) x54.2)
(bn (fieldAddrO 2 x0.1) fun x63 =>
(bn (mp (loadO false 1 x63 x54.2) fun x64 => (x64, x54.2)) fun x64 =>
(bn (call 44 [x64.1, (D.fn (Fn.func 45) [] [x0.1])] x64.2) fun x65 =>
(Res.elim x65.1 (fun x66 => (bn (unD UnOp.not x66) fun x67 =>
(leaveM M RetK.can A (Res.ret x67) x65.2))) (fun x66 => (leaveM M RetK.can A (Res.pan x66) x65.2))))))))))))))))))))))))))))) (fun x41 => (leaveM M RetK.can A (Res.pan x41) x40.2)))))))))))))))))))))))))))))
(bn (binO .eql 3 true x2.1 (n64 7)) fun x15 =>
(bn (D.bool? x15) fun x16 =>
(ifb x16 (bn (fieldAddrO 2 x0.1) fun x17 =>
(bn (mp (loadO false 1 x17 x2.2) fun x18 => (x18, x2.2)) fun x18 =>
(bn (lenSlO x18.1) fun x19 =>
(bn (binO .eql 3 true x19 (n64 1)) fun x20 =>
(bn (unD UnOp.not x20) fun x21 =>
(bn (guardB false x21) fun x22 =>
(bn (ifb x22 (some (D.bool false))
(some (D.tup []))) fun x23 =>
(bn (guardB false x21) fun x24 =>
(bn (ifb x24 (fieldAddrO 1 x0.1)
(some (D.tup []))) fun x25 =>
(bn (guardB false x21) fun x26 =>
(bn (ifb x26 (mp (loadO false 1 x25 x18.2) fun x27 => (x27, x18.2))
(some ((D.tup []), x18.2))) fun x27 =>
(bn (guardB false x21) fun x28 =>
(bn (ifb x28 (binO .neq 3 true x27.1 (D.str []))
(some (D.tup []))) fun x29 =>
(bn (guardB false x21) fun x30 =>
(bn (ifb x30 (binO .neq 0 false x23 x29)
(some (D.tup []))) fun x31 =>
(bn (mp (D.bool? x21) fun x32 => (ifb x32 (D.bool true)
 x31)) fun x32 =>
(bn (guardB false x32) fun x33 =>
(bn (ifb x33 (some (D.bool false))
(some (D.tup []))) fun x34 =>
(bn (guardB false x32) fun x35 =>
(bn (ifb x35 (some x34)
(some (D.tup []))) fun x36 =>
(bn (guardB true x36) fun x37 =>
(bn (ifb x37 (fieldAddrO 1 x0.1)
(some (D.tup []))) fun x38 =>
(bn (guardB true x36) fun x39 =>
(bn (ifb x39 (mp (loadO false 1 x38 x27.2) fun x40 => (x40, x27.2))
(some ((D.tup []), x27.2))) fun x40 =>
(bn (guardB true x36) fun x41 =>
(bn (ifb x41 (call 43 [x40.1] x40.2)
(some ((Res.ret (D.tup [])), x40.2))) fun x42 =>
(Res.elim x42.1 (fun x43 => (bn (guardB true x36) fun x44 =>
(bn (ifb x44 (unD UnOp.not x43)
(some (D.tup []))) fun x45 =>
(bn (guardB false x32) fun x46 =>
(bn (ifb x46 (mp (D.bool? x36) fun x47 => (ifb x47 x45
(D.bool false)))
(some (D.tup []))) fun x47 =>
(bn (mp (D.bool? x32) fun x48 => (ifb x48 (D.bool true)
 x47)) fun x48 =>
(bn (guardB false x48) fun x49 =>
(bn (ifb x49 (some (D.bool false))
(some (D.tup []))) fun x50 =>
(bn (guardB false x48) fun x51 =>
(bn (ifb x51 (some x50)
(some (D.tup []))) fun x52 =>
(bn (guardB true x52) fun x53 =>
(bn (ifb x53 (fieldAddrO 2 x0.1)
(some (D.tup []))) fun x54 =>
(bn (guardB true x52) fun x55 =>
(bn (ifb x55 (mp (loadO false 1 x54 x42.2) fun x56 => (x56, x42.2))
(some ((D.tup []), x42.2))) fun x56 =>
(bn (guardB true x52) fun x57 =>
(bn (ifb x57 (lenSlO x56.1)
(some (D.tup []))) fun x58 =>
(bn (guardB true x52) fun x59 =>
(bn (ifb x59 (binO .gtr 3 true x58 (n64 0))
(some (D.tup []))) fun x60 =>
(bn (guardB false x48) fun x61 =>
(bn (ifb x61 (mp (D.bool? x52) fun x62 => (ifb x62 x60
(D.bool false)))
(some (D.tup []))) fun x62 =>
(bn (mp (D.bool? x48) fun x63 => (ifb x63 (D.bool true)
 x62)) fun x63 =>
(bn (D.bool? x63) fun x64 =>
(ifb x64 (leaveM M RetK.can A (Res.ret (D.bool false)) x56.2)
(bn (fieldAddrO 2 x0.1) fun x65 =>
(bn (mp (loadO false 1 x65 x56.2) fun x66 => (x66, x56.2)) fun x66 =>
(bn (call 44 [x66.1, (D.fn (Fn.func 45) [] [x0.1])] x66.2) fun x67 =>
(Res.elim x67.1 (fun x68 => (bn (unD UnOp.not x68) fun x69 =>
(leaveM M RetK.can A (Res.ret x69) x67.2))) (fun x68 => (leaveM M RetK.can A (Res.pan x68) x67.2))))))))))))))))))))))))))))) (fun x43 => (leaveM M RetK.can A (Res.pan x43) x42.2)))))))))))))))))))))))))))))
(bn (binO .eql 3 true x2.1 (n64 8)) fun x17 =>
(bn (D.bool? x17) fun x18 =>
(ifb x18 (bn (fieldAddrO 2 x0.1) fun x19 =>
(bn (mp (loadO false 1 x19 x2.2) fun x20 => (x20, x2.2)) fun x20 =>
(bn (lenSlO x20.1) fun x21 =>
(bn (binO .eql 3 true x21 (n64 1)) fun x22 =>
(bn (unD UnOp.not x22) fun x23 =>
(bn (guardB false x23) fun x24 =>
(bn (ifb x24 (some (D.bool false))
(some (D.tup []))) fun x25 =>
(bn (guardB false x23) fun x26 =>
(bn (ifb x26 (fieldAddrO 1 x0.1)
(some (D.tup []))) fun x27 =>
(bn (guardB false x23) fun x28 =>
(bn (ifb x28 (mp (loadO false 1 x27 x20.2) fun x29 => (x29, x20.2))
(some ((D.tup []), x20.2))) fun x29 =>
(bn (guardB false x23) fun x30 =>
(bn (ifb x30 (binO .neq 3 true x29.1 (D.str []))
(some (D.tup []))) fun x31 =>
(bn (guardB false x23) fun x32 =>
(bn (ifb x32 (binO .neq 0 false x25 x31)
(some (D.tup []))) fun x33 =>
(bn (mp (D.bool? x23) fun x34 => (ifb x34 (D.bool true)
 x33)) fun x34 =>
(bn (guardB false x34) fun x35 =>
(bn (ifb x35 (some (D.bool false))
(some (D.tup []))) fun x36 =>
(bn (guardB false x34) fun x37 =>
(bn (ifb x37 (some x36)
(some (D.tup []))) fun x38 =>
(bn (guardB true x38) fun x39 =>
(bn (ifb x39 (fieldAddrO 1 x0.1)
(some (D.tup []))) fun x40 =>
(bn (guardB true x38) fun x41 =>
(bn (ifb x41 (mp (loadO false 1 x40 x29.2) fun x42 => (x42, x29.2))
(some ((D.tup []), x29.2))) fun x42 =>
(bn (guardB true x38) fun x43 =>
(bn (ifb x43 (call 43 [x42.1] x42.2)
(some ((Res.ret (D.tup [])), x42.2))) fun x44 =>
(Res.elim x44.1 (fun x45 => (bn (guardB true x38) fun x46 =>
(bn (ifb x46 (unD UnOp.not x45)
(some (D.tup []))) fun x47 =>
(bn (guardB false x34) fun x48 =>
(bn (ifb x48 (mp (D.bool? x38) fun x49 => (ifb x49 x47
(D.bool false)))
(some (D.tup []))) fun x49 =>
(bn (mp (D.bool? x34) fun x50 => (ifb x50 (D.bool true)
 x49)) fun x50 =>
(bn (guardB false x50) fun x51 =>
(bn (ifb x51 (some (D.bool false))
(some (D.tup []))) fun x52 =>
(bn (guardB false x50) fun x53 =>
(bn (ifb x53 (some x52)
(some (D.tup []))) fun x54 =>
(bn (guardB true x54) fun x55 =>
(bn (ifb x55 (fieldAddrO 2 x0.1)
(some (D.tup []))) fun x56 =>
(bn (guardB true x54) fun x57 =>
(bn (ifb x57 (mp (loadO false 1 x56 x44.2) fun x58 => (x58, x44.2))
(some ((D.tup []), x44.2))) fun x58 =>
(bn (guardB true x54) fun x59 =>
(bn (ifb x59 (lenSlO x58.1)
(some (D.tup []))) fun x60 =>
(bn (guardB true x54) fun x61 =>
(bn (ifb x61 (binO .gtr 3 true x60 (n64 0))
(some (D.tup []))) fun x62 =>
(bn (guardB false x50) fun x63 =>
(bn (ifb x63 (mp (D.bool? x54) fun x64 => (ifb x64 x62
(D.bool false)))
(some (D.tup []))) fun x64 =>
(bn (mp (D.bool? x50) fun x65 => (ifb x65 (D.bool true)
 x64)) fun x65 =>
(bn (D.bool? x65) fun x66 =>
(ifb x66 (leaveM M RetK.can A (Res.ret (D.bool false)) x58.2)
(bn (fieldAddrO 2 x0.1) fun x67 =>
(bn (mp (loadO false 1 x67 x58.2) fun x68 => (x68, x58.2)) fun x68 =>
(bn (call 44 [x68.1, (D.fn (Fn.func 45) [] [x0.1])] x68.2) fun x69 =>
(Res.elim x69.1 (fun x70 => (bn (unD UnOp.not x70) fun x71 =>
(leaveM M RetK.can A (Res.ret x71) x69.2))) (fun x70 => (leaveM M RetK.can A (Res.pan x70) x69.2))))))))))))))))))))))))))))) (fun x45 => (leaveM M RetK.can A (Res.pan x45) x44.2)))))))))))))))))))))))))))))
(leaveM M RetK.can A (Res.ret (D.bool false)) x2.2))))))))))))))))))))))))))))
theorem b21 (M : Mode) (call : CallT) (dcall : DcallT) (a0 : D) (A : St) : bodyN M Tryz.prog rxHint kk call dcall 21 [a0] A = f21 M call dcall a0.canon A := by
  kernel_rfl
theorem r21 (a0 : D) (A : St) : Run Tryz.prog rxA 21 [a0] A = f21 mL (Run Tryz.prog rxA) (Dcall Tryz.prog rxA) a0.canon A := (Run_eqN Tryz.prog rxA kk rfl rfl _ _).trans (b21 mL (Run Tryz.prog rxA) (Dcall Tryz.prog rxA) a0 A)
noncomputable def f22_s0 (M : Mode) (call : CallT) (dcall : DcallT) (A : St) (e : Env) (Av5 : St) : (Option ((Env × St) ⊕ (Res × St))) :=
(bn (binO .lss 3 false (e.g 10) (e.g 9)) fun x0 =>
(bn (D.bool? x0) fun x1 =>
(ifb x1 (bn (binO .add 3 true (e.g 0) (n64 1)) fun x2 =>
(bn (makeO 1 1 1 [(D.bool false)] x2 x2 Av5) fun x3 =>
(bn (indexAddrO 1 false (e.g 3) (e.g 10)) fun x4 =>
(bn (mp (storeO false 1 x4 x3.1 x3.2) fun x5 => ((D.tup []), x5)) fun x5 =>
(bn (binO .add 3 true (e.g 10) (n64 1)) fun x6 =>
(some (Sum.inl ((Env.mk (sp [(0, (e.g 0)), (2, (e.g 3)), (5, (e.g 9)), (0, x6)] 10) (e).df), x5.2))))))))
(Option.map (Sum.inr ) (bn (leavesD dcall (fun (x2 : St) => (some (e.g 3))) (e).df none Av5) fun x2 =>
(leaveM M RetK.keep A x2.1 x2.2))))))
noncomputable def f22 (M : Mode) (call : CallT) (dcall : DcallT) (a0 : D) (A : St) : (Option (Res × St)) :=
(bn (binO .add 3 true a0 (n64 1)) fun x0 =>
(bn (makeO 1 24 1 [(D.sl Own.full 0 [])] x0 x0 A) fun x1 =>
(bn (lenSlO x1.1) fun x2 =>
(@Mode.it M (Res × St) (f22_s0 M call dcall A) (Env.mk (sp [(0, a0), (2, x1.1), (5, x2), (0, (n64 0))] 10) []) x1.2))))
theorem b22 (M : Mode) (call : CallT) (dcall : DcallT) (a0 : D) (A : St) : bodyN M Tryz.prog rxHint kk call dcall 22 [a0] A = f22 M call dcall a0.canon A := by
  kernel_rfl
theorem r22 (a0 : D) (A : St) : Run Tryz.prog rxA 22 [a0] A = f22 mL (Run Tryz.prog rxA) (Dcall Tryz.prog rxA) a0.canon A := (Run_eqN Tryz.prog rxA kk rfl rfl _ _).trans (b22 mL (Run Tryz.prog rxA) (Dcall Tryz.prog rxA) a0 A)
noncomputable def f23 (M : Mode) (call : CallT) (dcall : DcallT) (a0 : D) (a1 : D) (A : St) : (Option (Res × St)) :=
(bn (call 46 [a0, a1] A) fun x0 =>
(Res.elim x0.1 (fun x1 => (bn (binO .geq 3 true x1 (n64 0)) fun x2 =>
(leaveM M RetK.can A (Res.ret x2) x0.2))) (fun x1 => (leaveM M RetK.can A (Res.pan x1) x0.2))))
theorem b23 (M : Mode) (call : CallT) (dcall : DcallT) (a0 a1 : D) (A : St) : bodyN M Tryz.prog rxHint kk call dcall 23 [a0, a1] A = f23 M call dcall a0.canon a1.canon A := by
  kernel_rfl
theorem r23 (a0 a1 : D) (A : St) : Run Tryz.prog rxA 23 [a0, a1] A = f23 mL (Run Tryz.prog rxA) (Dcall Tryz.prog rxA) a0.canon a1.canon A := (Run_eqN Tryz.prog rxA kk rfl rfl _ _).trans (b23 mL (Run Tryz.prog rxA) (Dcall Tryz.prog rxA) a0 a1 A)
noncomputable def f24_s0 (M : Mode) (call : CallT) (dcall : DcallT) (A : St) (e : Env) (Av5 : St) : (Option ((Env × St) ⊕ (Res × St))) :=
(bn (binO .lss 3 false (e.g 9) (e.g 8)) fun x0 =>
(bn (D.bool? x0) fun x1 =>
(ifb x1 (bn (indexAddrO 1 false (e.g 3) (e.g 9)) fun x2 =>
(bn (mp (loadO false 1 x2 Av5) fun x3 => (x3, Av5)) fun x3 =>
(bn (indexAddrO 1 false x3.1 (e.g 9)) fun x4 =>
(bn (mp (storeO false 1 x4 (D.bool true) x3.2) fun x5 => ((D.tup []), x5)) fun x5 =>
(bn (binO .add 3 true (e.g 9) (n64 1)) fun x6 =>
(some (Sum.inl ((Env.mk (sp [(3, (e.g 3)), (4, (e.g 8)), (0, x6)] 10) (e).df), x5.2))))))))
(Option.map (Sum.inr ) (bn (leavesD dcall (fun (x2 : St) => (some (e.g 3))) (e).df none Av5) fun x2 =>
(leaveM M RetK.keep A x2.1 x2.2))))))
noncomputable def f24 (M : Mode) (call : CallT) (dcall : DcallT) (a0 : D) (A : St) : (Option (Res × St)) :=
(bn (call 22 [a0] A) fun x0 =>
(Res.elim x0.1 (fun x1 => (bn (lenSlO x1) fun x2 =>
(@Mode.it M (Res × St) (f24_s0 M call dcall A) (Env.mk (sp [(3, x1), (4, x2), (0, (n64 0))] 10) []) x0.2))) (fun x1 => (leaveM M RetK.keep A (Res.pan x1) x0.2))))
theorem b24 (M : Mode) (call : CallT) (dcall : DcallT) (a0 : D) (A : St) : bodyN M Tryz.prog rxHint kk call dcall 24 [a0] A = f24 M call dcall a0.canon A := by
  kernel_rfl
theorem r24 (a0 : D) (A : St) : Run Tryz.prog rxA 24 [a0] A = f24 mL (Run Tryz.prog rxA) (Dcall Tryz.prog rxA) a0.canon A := (Run_eqN Tryz.prog rxA kk rfl rfl _ _).trans (b24 mL (Run Tryz.prog rxA) (Dcall Tryz.prog rxA) a0 A)
noncomputable def f25_s0 (M : Mode) (call : CallT) (dcall : DcallT) (e : Env) (A : St) : (Option ((Env × St) ⊕ ((Env × St) ⊕ ((Env × St) ⊕ (Res × St))))) :=
(bn (indexAddrO 1 false (e.g 0) (e.g 6)) fun x0 =>
(bn (mp (loadO false 1 x0 A) fun x1 => (x1, A)) fun x1 =>
(bn (indexAddrO 1 false x1.1 (e.g 7)) fun x2 =>
(bn (mp (loadO false 1 x2 x1.2) fun x3 => (x3, x1.2)) fun x3 =>
(bn (guardB true x3.1) fun x4 =>
(bn (ifb x4 (some (e.g 8))
(some (D.tup []))) fun x5 =>
(bn (guardB true x3.1) fun x6 =>
(bn (ifb x6 (some (e.g 0))
(some (D.tup []))) fun x7 =>
(bn (guardB true x3.1) fun x8 =>
(bn (ifb x8 (lenSlO x7)
(some (D.tup []))) fun x9 =>
(bn (guardB true x3.1) fun x10 =>
(bn (ifb x10 (binO .lss 3 false x5 x9)
(some (D.tup []))) fun x11 =>
(bn (mp (D.bool? x3.1) fun x12 => (ifb x12 x11
(D.bool false))) fun x12 =>
(bn (D.bool? x12) fun x13 =>
(ifb x13 (bn (indexAddrO 1 false (e.g 5) (e.g 6)) fun x14 =>
(bn (mp (mp (loadO false 1 x14 x3.2) fun x15 => (x15, x3.2)) fun x15 => x15.1) fun x15 =>
(bn (indexAddrO 1 false (e.g 5) (e.g 6)) fun x16 =>
(bn (mp (mp (loadO false 1 x16 x3.2) fun x17 => (x17, x3.2)) fun x17 => x17.1) fun x17 =>
(bn (indexAddrO 1 false x17 (e.g 8)) fun x18 =>
(bn (mp (mp (loadO false 1 x18 x3.2) fun x19 => (x19, x3.2)) fun x19 => x19.1) fun x19 =>
(bn (guardB false x19) fun x20 =>
(bn (ifb x20 (some (e.g 1))
(some (D.tup []))) fun x21 =>
(bn (guardB false x19) fun x22 =>
(bn (ifb x22 (some (e.g 7))
(some (D.tup []))) fun x23 =>
(bn (guardB false x19) fun x24 =>
(bn (ifb x24 (indexAddrO 1 false x21 x23)
(some (D.tup []))) fun x25 =>
(bn (guardB false x19) fun x26 =>
(bn (ifb x26 (mp (mp (loadO false 1 x25 x3.2) fun x27 => (x27, x3.2)) fun x27 => x27.1)
(some (D.tup []))) fun x27 =>
(bn (guardB false x19) fun x28 =>
(bn (ifb x28 (some (e.g 8))
(some (D.tup []))) fun x29 =>
(bn (guardB false x19) fun x30 =>
(bn (ifb x30 (indexAddrO 1 false x27 x29)
(some (D.tup []))) fun x31 =>
(bn (guardB false x19) fun x32 =>
(bn (ifb x32 (mp (mp (loadO false 1 x31 x3.2) fun x33 => (x33, x3.2)) fun x33 => x33.1)
(some (D.tup []))) fun x33 =>
(bn (mp (D.bool? x19) fun x34 => (ifb x34 (D.bool true)
 x33)) fun x34 =>
(bn (indexAddrO 1 false x15 (e.g 8)) fun x35 =>
(bn (mp (storeO false 1 x35 x34 x3.2) fun x36 => ((D.tup []), x36)) fun x36 =>
(@Mode.gs M ((Env × St) ⊕ ((Env × St) ⊕ ((Env × St) ⊕ (Res × St)))) True true (bn (binO .add 3 true (e.g 8) (n64 1)) fun x37 =>
(some (Sum.inl ((Env.mk (sp [(0, (e.g 0)), (0, (e.g 1)), (3, (e.g 5)), (0, (e.g 6)), (0, (e.g 7)), (0, x37), (5, (e.g 14)), (0, (e.g 15))] 49) (e).df), x36.2))))))))))))))))))))))))))))
(Option.map (Sum.inr ) (bn (binO .add 3 true (e.g 7) (n64 1)) fun x14 =>
(some (Sum.inl ((Env.mk (sp [(0, (e.g 0)), (0, (e.g 1)), (3, (e.g 5)), (0, (e.g 6)), (0, x14), (6, (e.g 14)), (0, (e.g 15))] 49) (e).df), x3.2))))))))))))))))))))
noncomputable def f25_s1 (M : Mode) (call : CallT) (dcall : DcallT) (e : Env) (A : St) : (Option ((Env × St) ⊕ ((Env × St) ⊕ (Res × St)))) :=
(bn (lenSlO (e.g 0)) fun x0 =>
(bn (binO .lss 3 false (e.g 7) x0) fun x1 =>
(bn (D.bool? x1) fun x2 =>
(ifb x2 (@Mode.it M ((Env × St) ⊕ ((Env × St) ⊕ (Res × St))) (f25_s0 M call dcall) (Env.mk (sp [(0, (e.g 0)), (0, (e.g 1)), (3, (e.g 5)), (0, (e.g 6)), (0, (e.g 7)), (0, (e.g 7)), (5, (e.g 14)), (0, (e.g 15))] 49) (e).df) A)
(Option.map (Sum.inr ) (bn (binO .add 3 true (e.g 15) (n64 1)) fun x3 =>
(some (Sum.inl ((Env.mk (sp [(0, (e.g 0)), (0, (e.g 1)), (3, (e.g 5)), (8, (e.g 14)), (0, x3)] 49) (e).df), A)))))))))
noncomputable def f25_s2 (M : Mode) (call : CallT) (dcall : DcallT) (A : St) (e : Env) (Av5 : St) : (Option ((Env × St) ⊕ (Res × St))) :=
(bn (binO .lss 3 false (e.g 15) (e.g 14)) fun x0 =>
(bn (D.bool? x0) fun x1 =>
(ifb x1 (@Mode.it M ((Env × St) ⊕ (Res × St)) (f25_s1 M call dcall) (Env.mk (sp [(0, (e.g 0)), (0, (e.g 1)), (3, (e.g 5)), (0, (e.g 15)), (0, (e.g 15)), (6, (e.g 14)), (0, (e.g 15))] 49) (e).df) Av5)
(Option.map (Sum.inr ) (bn (leavesD dcall (fun (x2 : St) => (some (e.g 5))) (e).df none Av5) fun x2 =>
(leaveM M RetK.keep A x2.1 x2.2))))))
noncomputable def f25 (M : Mode) (call : CallT) (dcall : DcallT) (a0 : D) (a1 : D) (A : St) : (Option (Res × St)) :=
(bn (lenSlO a0) fun x0 =>
(bn (binO .sub 3 true x0 (n64 1)) fun x1 =>
(bn (call 22 [x1] A) fun x2 =>
(Res.elim x2.1 (fun x3 => (bn (lenSlO a0) fun x4 =>
(@Mode.it M (Res × St) (f25_s2 M call dcall A) (Env.mk (sp [(0, a0), (0, a1), (3, x3), (8, x4), (0, (n64 0))] 49) []) x2.2))) (fun x3 => (leaveM M RetK.keep A (Res.pan x3) x2.2))))))
theorem b25 (M : Mode) (call : CallT) (dcall : DcallT) (a0 a1 : D) (A : St) : bodyN M Tryz.prog rxHint kk call dcall 25 [a0, a1] A = f25 M call dcall a0.canon a1.canon A := by
  kernel_rfl
theorem r25 (a0 a1 : D) (A : St) : Run Tryz.prog rxA 25 [a0, a1] A = f25 mL (Run Tryz.prog rxA) (Dcall Tryz.prog rxA) a0.canon a1.canon A := (Run_eqN Tryz.prog rxA kk rfl rfl _ _).trans (b25 mL (Run Tryz.prog rxA) (Dcall Tryz.prog rxA) a0 a1 A)
noncomputable def f26_s0 (M : Mode) (call : CallT) (dcall : DcallT) (e : Env) (A : St) : (Option ((Env × St) ⊕ ((Env × St) ⊕ (Res × St)))) :=
(bn (binO .lss 3 false (e.g 14) (e.g 13)) fun x0 =>
(bn (D.bool? x0) fun x1 =>
(ifb x1 (bn (indexAddrO 1 false (e.g 0) (e.g 5)) fun x2 =>
(bn (mp (mp (loadO false 1 x2 A) fun x3 => (x3, A)) fun x3 => x3.1) fun x3 =>
(bn (indexAddrO 1 false (e.g 0) (e.g 5)) fun x4 =>
(bn (mp (mp (loadO false 1 x4 A) fun x5 => (x5, A)) fun x5 => x5.1) fun x5 =>
(bn (indexAddrO 1 false x5 (e.g 14)) fun x6 =>
(bn (mp (mp (loadO false 1 x6 A) fun x7 => (x7, A)) fun x7 => x7.1) fun x7 =>
(bn (guardB false x7) fun x8 =>
(bn (ifb x8 (some (e.g 1))
(some (D.tup []))) fun x9 =>
(bn (guardB false x7) fun x10 =>
(bn (ifb x10 (some (e.g 5))
(some (D.tup []))) fun x11 =>
(bn (guardB false x7) fun x12 =>
(bn (ifb x12 (indexAddrO 1 false x9 x11)
(some (D.tup []))) fun x13 =>
(bn (guardB false x7) fun x14 =>
(bn (ifb x14 (mp (mp (loadO false 1 x13 A) fun x15 => (x15, A)) fun x15 => x15.1)
(some (D.tup []))) fun x15 =>
(bn (guardB false x7) fun x16 =>
(bn (ifb x16 (some (e.g 14))
(some (D.tup []))) fun x17 =>
(bn (guardB false x7) fun x18 =>
(bn (ifb x18 (indexAddrO 1 false x15 x17)
(some (D.tup []))) fun x19 =>
(bn (guardB false x7) fun x20 =>
(bn (ifb x20 (mp (mp (loadO false 1 x19 A) fun x21 => (x21, A)) fun x21 => x21.1)
(some (D.tup []))) fun x21 =>
(bn (mp (D.bool? x7) fun x22 => (ifb x22 (D.bool true)
 x21)) fun x22 =>
(bn (indexAddrO 1 false x3 (e.g 14)) fun x23 =>
(bn (mp (storeO false 1 x23 x22 A) fun x24 => ((D.tup []), x24)) fun x24 =>
(@Mode.gs M ((Env × St) ⊕ ((Env × St) ⊕ (Res × St))) True true (bn (binO .add 3 true (e.g 14) (n64 1)) fun x25 =>
(some (Sum.inl ((Env.mk (sp [(0, (e.g 0)), (0, (e.g 1)), (3, (e.g 5)), (2, (e.g 8)), (0, (e.g 9)), (3, (e.g 13)), (0, x25)] 27) (e).df), x24.2))))))))))))))))))))))))))))
(Option.map (Sum.inr ) (bn (binO .add 3 true (e.g 9) (n64 1)) fun x2 =>
(some (Sum.inl ((Env.mk (sp [(0, (e.g 0)), (0, (e.g 1)), (6, (e.g 8)), (0, x2)] 32) (e).df), A))))))))
noncomputable def f26_s1 (M : Mode) (call : CallT) (dcall : DcallT) (A : St) (e : Env) (Av5 : St) : (Option ((Env × St) ⊕ (Res × St))) :=
(bn (binO .lss 3 false (e.g 9) (e.g 8)) fun x0 =>
(bn (D.bool? x0) fun x1 =>
(ifb x1 (bn (lenSlO (e.g 0)) fun x2 =>
(@Mode.it M ((Env × St) ⊕ (Res × St)) (f26_s0 M call dcall) (Env.mk (sp [(0, (e.g 0)), (0, (e.g 1)), (3, (e.g 9)), (2, (e.g 8)), (0, (e.g 9)), (3, x2), (0, (n64 0))] 27) (e).df) Av5))
(Option.map (Sum.inr ) (bn (leavesD dcall (fun (x2 : St) => (some (e.g 0))) (e).df none Av5) fun x2 =>
(leaveM M RetK.keep A x2.1 x2.2))))))
noncomputable def f26 (M : Mode) (call : CallT) (dcall : DcallT) (a0 : D) (a1 : D) (A : St) : (Option (Res × St)) :=
(bn (lenSlO a0) fun x0 =>
(@Mode.it M (Res × St) (f26_s1 M call dcall A) (Env.mk (sp [(0, a0), (0, a1), (6, x0), (0, (n64 0))] 32) []) A))
theorem b26 (M : Mode) (call : CallT) (dcall : DcallT) (a0 a1 : D) (A : St) : bodyN M Tryz.prog rxHint kk call dcall 26 [a0, a1] A = f26 M call dcall a0.canon a1.canon A := by
  kernel_rfl
theorem r26 (a0 a1 : D) (A : St) : Run Tryz.prog rxA 26 [a0, a1] A = f26 mL (Run Tryz.prog rxA) (Dcall Tryz.prog rxA) a0.canon a1.canon A := (Run_eqN Tryz.prog rxA kk rfl rfl _ _).trans (b26 mL (Run Tryz.prog rxA) (Dcall Tryz.prog rxA) a0 a1 A)
noncomputable def f27_s0 (M : Mode) (call : CallT) (dcall : DcallT) (e : Env) (A : St) : (Option ((Env × St) ⊕ ((Env × St) ⊕ ((Env × St) ⊕ (Res × St))))) :=
(bn (indexAddrO 1 false (e.g 0) (e.g 4)) fun x0 =>
(bn (mp (loadO false 1 x0 A) fun x1 => (x1, A)) fun x1 =>
(bn (indexAddrO 1 false x1.1 (e.g 5)) fun x2 =>
(bn (mp (loadO false 1 x2 x1.2) fun x3 => (x3, x1.2)) fun x3 =>
(bn (guardB true x3.1) fun x4 =>
(bn (ifb x4 (some (e.g 5))
(some (D.tup []))) fun x5 =>
(bn (guardB true x3.1) fun x6 =>
(bn (ifb x6 (some (e.g 4))
(some (D.tup []))) fun x7 =>
(bn (guardB true x3.1) fun x8 =>
(bn (ifb x8 (binO .gtr 3 false x5 x7)
(some (D.tup []))) fun x9 =>
(bn (mp (D.bool? x3.1) fun x10 => (ifb x10 x9
(D.bool false))) fun x10 =>
(bn (guardB true x10) fun x11 =>
(bn (ifb x11 (some (e.g 6))
(some (D.tup []))) fun x12 =>
(bn (guardB true x10) fun x13 =>
(bn (ifb x13 (some (e.g 0))
(some (D.tup []))) fun x14 =>
(bn (guardB true x10) fun x15 =>
(bn (ifb x15 (lenSlO x14)
(some (D.tup []))) fun x16 =>
(bn (guardB true x10) fun x17 =>
(bn (ifb x17 (binO .lss 3 false x12 x16)
(some (D.tup []))) fun x18 =>
(bn (mp (D.bool? x10) fun x19 => (ifb x19 x18
(D.bool false))) fun x19 =>
(bn (D.bool? x19) fun x20 =>
(ifb x20 (bn (indexAddrO 1 false (e.g 3) (e.g 4)) fun x21 =>
(bn (mp (mp (loadO false 1 x21 x3.2) fun x22 => (x22, x3.2)) fun x22 => x22.1) fun x22 =>
(bn (indexAddrO 1 false (e.g 3) (e.g 4)) fun x23 =>
(bn (mp (mp (loadO false 1 x23 x3.2) fun x24 => (x24, x3.2)) fun x24 => x24.1) fun x24 =>
(bn (indexAddrO 1 false x24 (e.g 6)) fun x25 =>
(bn (mp (mp (loadO false 1 x25 x3.2) fun x26 => (x26, x3.2)) fun x26 => x26.1) fun x26 =>
(bn (guardB false x26) fun x27 =>
(bn (ifb x27 (some (e.g 3))
(some (D.tup []))) fun x28 =>
(bn (guardB false x26) fun x29 =>
(bn (ifb x29 (some (e.g 5))
(some (D.tup []))) fun x30 =>
(bn (guardB false x26) fun x31 =>
(bn (ifb x31 (indexAddrO 1 false x28 x30)
(some (D.tup []))) fun x32 =>
(bn (guardB false x26) fun x33 =>
(bn (ifb x33 (mp (mp (loadO false 1 x32 x3.2) fun x34 => (x34, x3.2)) fun x34 => x34.1)
(some (D.tup []))) fun x34 =>
(bn (guardB false x26) fun x35 =>
(bn (ifb x35 (some (e.g 6))
(some (D.tup []))) fun x36 =>
(bn (guardB false x26) fun x37 =>
(bn (ifb x37 (indexAddrO 1 false x34 x36)
(some (D.tup []))) fun x38 =>
(bn (guardB false x26) fun x39 =>
(bn (ifb x39 (mp (mp (loadO false 1 x38 x3.2) fun x40 => (x40, x3.2)) fun x40 => x40.1)
(some (D.tup []))) fun x40 =>
(bn (mp (D.bool? x26) fun x41 => (ifb x41 (D.bool true)
 x40)) fun x41 =>
(bn (indexAddrO 1 false x22 (e.g 6)) fun x42 =>
(bn (mp (storeO false 1 x42 x41 x3.2) fun x43 => ((D.tup []), x43)) fun x43 =>
(@Mode.gs M ((Env × St) ⊕ ((Env × St) ⊕ ((Env × St) ⊕ (Res × St)))) True true (bn (binO .add 3 true (e.g 6) (n64 1)) fun x44 =>
(some (Sum.inl ((Env.mk (sp [(0, (e.g 0)), (2, (e.g 3)), (0, (e.g 4)), (0, (e.g 5)), (0, x44)] 84) (e).df), x43.2))))))))))))))))))))))))))))
(Option.map (Sum.inr ) (bn (binO .add 3 true (e.g 5) (n64 1)) fun x21 =>
(some (Sum.inl ((Env.mk (sp [(0, (e.g 0)), (2, (e.g 3)), (0, (e.g 4)), (0, x21)] 85) (e).df), x3.2)))))))))))))))))))))))))))
noncomputable def f27_s1 (M : Mode) (call : CallT) (dcall : DcallT) (e : Env) (A : St) : (Option ((Env × St) ⊕ ((Env × St) ⊕ (Res × St)))) :=
(bn (lenSlO (e.g 0)) fun x0 =>
(bn (binO .lss 3 false (e.g 5) x0) fun x1 =>
(bn (D.bool? x1) fun x2 =>
(ifb x2 (bn (indexAddrO 1 false (e.g 3) (e.g 4)) fun x3 =>
(bn (mp (mp (loadO false 1 x3 A) fun x4 => (x4, A)) fun x4 => x4.1) fun x4 =>
(bn (indexAddrO 1 false (e.g 3) (e.g 4)) fun x5 =>
(bn (mp (mp (loadO false 1 x5 A) fun x6 => (x6, A)) fun x6 => x6.1) fun x6 =>
(bn (indexAddrO 1 false x6 (e.g 5)) fun x7 =>
(bn (mp (mp (loadO false 1 x7 A) fun x8 => (x8, A)) fun x8 => x8.1) fun x8 =>
(bn (guardB false x8) fun x9 =>
(bn (ifb x9 (some (e.g 0))
(some (D.tup []))) fun x10 =>
(bn (guardB false x8) fun x11 =>
(bn (ifb x11 (some (e.g 4))
(some (D.tup []))) fun x12 =>
(bn (guardB false x8) fun x13 =>
(bn (ifb x13 (indexAddrO 1 false x10 x12)
(some (D.tup []))) fun x14 =>
(bn (guardB false x8) fun x15 =>
(bn (ifb x15 (mp (mp (loadO false 1 x14 A) fun x16 => (x16, A)) fun x16 => x16.1)
(some (D.tup []))) fun x16 =>
(bn (guardB false x8) fun x17 =>
(bn (ifb x17 (some (e.g 5))
(some (D.tup []))) fun x18 =>
(bn (guardB false x8) fun x19 =>
(bn (ifb x19 (indexAddrO 1 false x16 x18)
(some (D.tup []))) fun x20 =>
(bn (guardB false x8) fun x21 =>
(bn (ifb x21 (mp (mp (loadO false 1 x20 A) fun x22 => (x22, A)) fun x22 => x22.1)
(some (D.tup []))) fun x22 =>
(bn (mp (D.bool? x8) fun x23 => (ifb x23 (D.bool true)
 x22)) fun x23 =>
(bn (indexAddrO 1 false x4 (e.g 5)) fun x24 =>
(bn (mp (storeO false 1 x24 x23 A) fun x25 => ((D.tup []), x25)) fun x25 =>
(@Mode.gs M ((Env × St) ⊕ ((Env × St) ⊕ (Res × St))) True true (@Mode.it M ((Env × St) ⊕ ((Env × St) ⊕ (Res × St))) (f27_s0 M call dcall) (Env.mk (sp [(0, (e.g 0)), (2, (e.g 3)), (0, (e.g 4)), (0, (e.g 5)), (0, (e.g 5))] 84) (e).df) x25.2)))))))))))))))))))))))))
(Option.map (Sum.inr ) (bn (binO .sub 3 true (e.g 4) (n64 1)) fun x3 =>
(some (Sum.inl ((Env.mk (sp [(0, (e.g 0)), (2, (e.g 3)), (0, x3)] 86) (e).df), A)))))))))
noncomputable def f27_s2 (M : Mode) (call : CallT) (dcall : DcallT) (A : St) (e : Env) (Av5 : St) : (Option ((Env × St) ⊕ (Res × St))) :=
(bn (binO .geq 3 true (e.g 4) (n64 0)) fun x0 =>
(bn (D.bool? x0) fun x1 =>
(ifb x1 (@Mode.it M ((Env × St) ⊕ (Res × St)) (f27_s1 M call dcall) (Env.mk (sp [(0, (e.g 0)), (2, (e.g 3)), (0, (e.g 4)), (0, (e.g 4))] 85) (e).df) Av5)
(Option.map (Sum.inr ) (bn (leavesD dcall (fun (x2 : St) => (some (e.g 3))) (e).df none Av5) fun x2 =>
(leaveM M RetK.keep A x2.1 x2.2))))))
noncomputable def f27 (M : Mode) (call : CallT) (dcall : DcallT) (a0 : D) (A : St) : (Option (Res × St)) :=
(bn (lenSlO a0) fun x0 =>
(bn (binO .sub 3 true x0 (n64 1)) fun x1 =>
(bn (call 22 [x1] A) fun x2 =>
(Res.elim x2.1 (fun x3 => (bn (lenSlO a0) fun x4 =>
(bn (binO .sub 3 true x4 (n64 1)) fun x5 =>
(@Mode.it M (Res × St) (f27_s2 M call dcall A) (Env.mk (sp [(0, a0), (2, x3), (0, x5)] 86) []) x2.2)))) (fun x3 => (leaveM M RetK.keep A (Res.pan x3) x2.2))))))
theorem b27 (M : Mode) (call : CallT) (dcall : DcallT) (a0 : D) (A : St) : bodyN M Tryz.prog rxHint kk call dcall 27 [a0] A = f27 M call dcall a0.canon A := by
  kernel_rfl
theorem r27 (a0 : D) (A : St) : Run Tryz.prog rxA 27 [a0] A = f27 mL (Run Tryz.prog rxA) (Dcall Tryz.prog rxA) a0.canon A := (Run_eqN Tryz.prog rxA kk rfl rfl _ _).trans (b27 mL (Run Tryz.prog rxA) (Dcall Tryz.prog rxA) a0 A)
noncomputable def f28_s0 (M : Mode) (call : CallT) (dcall : DcallT) (A : St) (e : Env) (Av5 : St) : (Option ((Env × St) ⊕ (Res × St))) :=
(bn (fieldAddrO 2 (e.g 3)) fun x0 =>
(bn (mp (loadO false 1 x0 Av5) fun x1 => (x1, Av5)) fun x1 =>
(bn (lenSlO x1.1) fun x2 =>
(bn (binO .lss 3 false (e.g 10) x2) fun x3 =>
(bn (guardB true x3) fun x4 =>
(bn (ifb x4 (some (e.g 8))
(some (D.tup []))) fun x5 =>
(bn (guardB true x3) fun x6 =>
(bn (ifb x6 (some (e.g 1))
(some (D.tup []))) fun x7 =>
(bn (guardB true x3) fun x8 =>
(bn (ifb x8 (binO .leq 3 false x5 x7)
(some (D.tup []))) fun x9 =>
(bn (mp (D.bool? x3) fun x10 => (ifb x10 x9
(D.bool false))) fun x10 =>
(bn (D.bool? x10) fun x11 =>
(ifb x11 (bn (fieldAddrO 2 (e.g 3)) fun x12 =>
(bn (mp (loadO false 1 x12 x1.2) fun x13 => (x13, x1.2)) fun x13 =>
(bn (indexAddrO 3 true x13.1 (e.g 10)) fun x14 =>
(bn (mp (loadO true 3 x14 x13.2) fun x15 => (x15, x13.2)) fun x15 =>
(bn (binO .sub 3 false (e.g 1) (e.g 8)) fun x16 =>
(bn (binO .sub 3 true (e.g 2) (n64 1)) fun x17 =>
(bn (call 28 [x15.1, x16, x17] x15.2) fun x18 =>
(Res.elim x18.1 (fun x19 => (bn (extractD x19 0) fun x20 =>
(bn (extractD x19 1) fun x21 =>
(bn (binO .add 3 false (e.g 8) x20) fun x22 =>
(bn (binO .gtr 3 false x21 (e.g 9)) fun x23 =>
(bn (D.bool? x23) fun x24 =>
(bn (ifb x24 (some (Sum.inl ((Env.mk (sp [(1, (e.g 1)), (0, (e.g 2)), (0, (e.g 3)), (4, x22), (0, x21), (0, (e.g 10))] 42) (e).df), x18.2)))
(some (Sum.inl ((Env.mk (sp [(1, (e.g 1)), (0, (e.g 2)), (0, (e.g 3)), (4, x22), (0, (e.g 9)), (0, (e.g 10))] 42) (e).df), x18.2)))) fun x25 =>
(Sum.elim (fun (x26 : (Env × St)) => (bn (binO .add 3 true (x26.1.g 10) (n64 1)) fun x27 =>
(@Mode.gk M ((Env × St) ⊕ (Res × St)) Av5 x26.2 (some (Sum.inl ((Env.mk (sp [(1, (D.shut (List.length Av5) (x26.1.g 1))), (0, (D.shut (List.length Av5) (x26.1.g 2))), (0, (D.shut (List.length Av5) (x26.1.g 3))), (4, (D.shut (List.length Av5) (x26.1.g 8))), (0, (D.shut (List.length Av5) (x26.1.g 9))), (0, (D.shut (List.length Av5) x27))] 42) (List.map (fun (x28 : (D × (List D))) => ((D.shut (List.length Av5) x28.1), (D.shutL (List.length Av5) x28.2))) (x26.1).df)), (List.take (List.length Av5) x26.2))))))) (fun (x26 : ((Env × St) ⊕ (Res × St))) => (some x26)) x25)))))))) (fun x19 => (Option.map (Sum.inr ) (bn (leavesD dcall (fun (x20 : St) => (some (D.tup [(e.g 6), (e.g 7)]))) (e).df (some x19) x18.2) fun x20 =>
(leaveM M RetK.can A x20.1 x20.2))))))))))))
(Option.map (Sum.inr ) (bn (binO .add 3 true (e.g 9) (n64 1)) fun x12 =>
(bn (leavesD dcall (fun (x13 : St) => (some (D.tup [(e.g 8), x12]))) (e).df none x1.2) fun x13 =>
(leaveM M RetK.can A x13.1 x13.2)))))))))))))))))
noncomputable def f28 (M : Mode) (call : CallT) (dcall : DcallT) (a0 : D) (a1 : D) (a2 : D) (A : St) : (Option (Res × St)) :=
(bn (boxO true a0 A) fun x0 =>
(bn (binO .leq 3 true a2 (n64 0)) fun x1 =>
(bn (D.bool? x1) fun x2 =>
(ifb x2 (bn (binO .add 3 true a1 (n64 1)) fun x3 =>
(leaveM M RetK.can A (Res.ret (D.tup [x3, (n64 0)])) x0.2))
(@Mode.it M (Res × St) (f28_s0 M call dcall A) (Env.mk (sp [(1, a1), (0, a2), (0, x0.1), (4, (n64 1)), (0, (n64 0)), (0, (n64 0))] 42) []) x0.2)))))
theorem b28 (M : Mode) (call : CallT) (dcall : DcallT) (a0 a1 a2 : D) (A : St) : bodyN M Tryz.prog rxHint kk call dcall 28 [a0, a1, a2] A = f28 M call dcall a0.canon a1.canon a2.canon A := by
  kernel_rfl
theorem r28 (a0 a1 a2 : D) (A : St) : Run Tryz.prog rxA 28 [a0, a1, a2] A = f28 mL (Run Tryz.prog rxA) (Dcall Tryz.prog rxA) a0.canon a1.canon a2.canon A := (Run_eqN Tryz.prog rxA kk rfl rfl _ _).trans (b28 mL (Run Tryz.prog rxA) (Dcall Tryz.prog rxA) a0 a1 a2 A)
noncomputable def f29_s0 (M : Mode) (call : CallT) (dcall : DcallT) (A : St) (e : Env) (Av5 : St) : (Option ((Env × St) ⊕ (Res × St))) :=
(bn (fieldAddrO 2 (e.g 2)) fun x0 =>
(bn (mp (loadO false 1 x0 Av5) fun x1 => (x1, Av5)) fun x1 =>
(bn (lenSlO x1.1) fun x2 =>
(bn (binO .lss 3 false (e.g 5) x2) fun x3 =>
(bn (D.bool? x3) fun x4 =>
(ifb x4 (bn (fieldAddrO 2 (e.g 2)) fun x5 =>
(bn (mp (loadO false 1 x5 x1.2) fun x6 => (x6, x1.2)) fun x6 =>
(bn (indexAddrO 3 true x6.1 (e.g 5)) fun x7 =>
(bn (mp (loadO true 3 x7 x6.2) fun x8 => (x8, x6.2)) fun x8 =>
(bn (binO .sub 3 true (e.g 1) (n64 1)) fun x9 =>
(bn (call 29 [x8.1, x9] x8.2) fun x10 =>
(Res.elim x10.1 (fun x11 => (bn (D.bool? x11) fun x12 =>
(ifb x12 (Option.map (Sum.inr ) (bn (leavesD dcall (fun (x13 : St) => (some (D.bool true))) (e).df none x10.2) fun x13 =>
(leaveM M RetK.can A x13.1 x13.2)))
(bn (binO .add 3 true (e.g 5) (n64 1)) fun x13 =>
(@Mode.gk M ((Env × St) ⊕ (Res × St)) Av5 x10.2 (some (Sum.inl ((Env.mk (sp [(1, (D.shut (List.length Av5) (e.g 1))), (0, (D.shut (List.length Av5) (e.g 2))), (2, (D.shut (List.length Av5) x13))] 17) (List.map (fun (x14 : (D × (List D))) => ((D.shut (List.length Av5) x14.1), (D.shutL (List.length Av5) x14.2))) (e).df)), (List.take (List.length Av5) x10.2))))))))) (fun x11 => (Option.map (Sum.inr ) (bn (leavesD dcall (fun (x12 : St) => (some (e.g 4))) (e).df (some x11) x10.2) fun x12 =>
(leaveM M RetK.can A x12.1 x12.2)))))))))))
(Option.map (Sum.inr ) (bn (leavesD dcall (fun (x5 : St) => (some (D.bool false))) (e).df none x1.2) fun x5 =>
(leaveM M RetK.can A x5.1 x5.2)))))))))
noncomputable def f29 (M : Mode) (call : CallT) (dcall : DcallT) (a0 : D) (a1 : D) (A : St) : (Option (Res × St)) :=
(bn (boxO true a0 A) fun x0 =>
(bn (binO .leq 3 true a1 (n64 0)) fun x1 =>
(bn (D.bool? x1) fun x2 =>
(ifb x2 (leaveM M RetK.can A (Res.ret (D.bool true)) x0.2)
(@Mode.it M (Res × St) (f29_s0 M call dcall A) (Env.mk (sp [(1, a1), (0, x0.1), (2, (n64 0))] 17) []) x0.2)))))
theorem b29 (M : Mode) (call : CallT) (dcall : DcallT) (a0 a1 : D) (A : St) : bodyN M Tryz.prog rxHint kk call dcall 29 [a0, a1] A = f29 M call dcall a0.canon a1.canon A := by
  kernel_rfl
theorem r29 (a0 a1 : D) (A : St) : Run Tryz.prog rxA 29 [a0, a1] A = f29 mL (Run Tryz.prog rxA) (Dcall Tryz.prog rxA) a0.canon a1.canon A := (Run_eqN Tryz.prog rxA kk rfl rfl _ _).trans (b29 mL (Run Tryz.prog rxA) (Dcall Tryz.prog rxA) a0 a1 A)
noncomputable def f30_s0 (M : Mode) (call : CallT) (dcall : DcallT) (A : St) (e : Env) (Av5 : St) : (Option ((Env × St) ⊕ (Res × St))) :=
(bn (fieldAddrO 2 (e.g 1)) fun x0 =>
(bn (mp (loadO false 1 x0 Av5) fun x1 => (x1, Av5)) fun x1 =>
(bn (lenSlO x1.1) fun x2 =>
(bn (binO .lss 3 false (e.g 4) x2) fun x3 =>
(bn (D.bool? x3) fun x4 =>
(ifb x4 (bn (guardB true (e.g 3)) fun x5 =>
(bn (ifb x5 (fieldAddrO 2 (e.g 1))
(some (D.tup []))) fun x6 =>
(bn (guardB true (e.g 3)) fun x7 =>
(bn (ifb x7 (mp (loadO false 1 x6 x1.2) fun x8 => (x8, x1.2))
(some ((D.tup []), x1.2))) fun x8 =>
(bn (guardB true (e.g 3)) fun x9 =>
(bn (ifb x9 (some (e.g 4))
(some (D.tup []))) fun x10 =>
(bn (guardB true (e.g 3)) fun x11 =>
(bn (ifb x11 (indexAddrO 3 true x8.1 x10)
(some (D.tup []))) fun x12 =>
(bn (guardB true (e.g 3)) fun x13 =>
(bn (ifb x13 (mp (loadO true 3 x12 x8.2) fun x14 => (x14, x8.2))
(some ((D.tup []), x8.2))) fun x14 =>
(bn (guardB true (e.g 3)) fun x15 =>
(bn (ifb x15 (call 30 [x14.1] x14.2)
(some ((Res.ret (D.tup [])), x14.2))) fun x16 =>
(Res.elim x16.1 (fun x17 => (bn (mp (D.bool? (e.g 3)) fun x18 => (ifb x18 x17
(D.bool false))) fun x18 =>
(bn (binO .add 3 true (e.g 4) (n64 1)) fun x19 =>
(@Mode.gk M ((Env × St) ⊕ (Res × St)) Av5 x16.2 (some (Sum.inl ((Env.mk (sp [(1, (D.shut (List.length Av5) (e.g 1))), (1, (D.shut (List.length Av5) x18)), (0, (D.shut (List.length Av5) x19))] 19) (List.map (fun (x20 : (D × (List D))) => ((D.shut (List.length Av5) x20.1), (D.shutL (List.length Av5) x20.2))) (e).df)), (List.take (List.length Av5) x16.2)))))))) (fun x17 => (Option.map (Sum.inr ) (bn (leavesD dcall (fun (x18 : St) => (some (e.g 2))) (e).df (some x17) x16.2) fun x18 =>
(leaveM M RetK.can A x18.1 x18.2)))))))))))))))))
(Option.map (Sum.inr ) (bn (leavesD dcall (fun (x5 : St) => (some (e.g 3))) (e).df none x1.2) fun x5 =>
(leaveM M RetK.can A x5.1 x5.2)))))))))
noncomputable def f30 (M : Mode) (call : CallT) (dcall : DcallT) (a0 : D) (A : St) : (Option (Res × St)) :=
(bn (boxO true a0 A) fun x0 =>
(bn (mp (loadO true 3 x0.1 x0.2) fun x1 => (x1, x0.2)) fun x1 =>
(bn (call 47 [x1.1] x1.2) fun x2 =>
(Res.elim x2.1 (fun x3 => (@Mode.it M (Res × St) (f30_s0 M call dcall A) (Env.mk (sp [(1, x0.1), (1, x3), (0, (n64 0))] 19) []) x2.2)) (fun x3 => (leaveM M RetK.can A (Res.pan x3) x2.2))))))
theorem b30 (M : Mode) (call : CallT) (dcall : DcallT) (a0 : D) (A : St) : bodyN M Tryz.prog rxHint kk call dcall 30 [a0] A = f30 M call dcall a0.canon A := by
  kernel_rfl
theorem r30 (a0 : D) (A : St) : Run Tryz.prog rxA 30 [a0] A = f30 mL (Run Tryz.prog rxA) (Dcall Tryz.prog rxA) a0.canon A := (Run_eqN Tryz.prog rxA kk rfl rfl _ _).trans (b30 mL (Run Tryz.prog rxA) (Dcall Tryz.prog rxA) a0 A)
noncomputable def f31_s0 (M : Mode) (call : CallT) (dcall : DcallT) (A : St) (e : Env) (Av5 : St) : (Option ((Env × St) ⊕ (Res × St))) :=
(bn (binO .leq 3 false (e.g 4) (e.g 0)) fun x0 =>
(bn (D.bool? x0) fun x1 =>
(ifb x1 (bn (binO .add 3 true (e.g 0) (n64 1)) fun x2 =>
(bn (makeO 1 1 1 [(D.bool false)] x2 x2 Av5) fun x3 =>
(bn (mp (Option.map (D.sl Own.full 1) (sliceParts 1 false 0 [(0, x3.1)])) fun x4 => (x4, x3.2)) fun x4 =>
(bn (appendO 1 24 (e.g 3) x4.1 x4.2) fun x5 =>
(bn (tokO [(0, 1)] x5.1 x5.2) fun x6 =>
(bn (binO .add 3 true (e.g 4) (n64 1)) fun x7 =>
(some (Sum.inl ((Env.mk (sp [(0, (e.g 0)), (2, x6.1), (0, x7)] 12) (e).df), x6.2)))))))))
(Option.map (Sum.inr ) (bn (leavesD dcall (fun (x2 : St) => (some (e.g 3))) (e).df none Av5) fun x2 =>
(leaveM M RetK.keep A x2.1 x2.2))))))
noncomputable def f31 (M : Mode) (call : CallT) (dcall : DcallT) (a0 : D) (A : St) : (Option (Res × St)) :=
(bn (tokO [(0, 1)] (D.sl Own.full 0 []) A) fun x0 =>
(@Mode.it M (Res × St) (f31_s0 M call dcall A) (Env.mk (sp [(0, a0), (2, x0.1), (0, (n64 0))] 12) []) x0.2))
theorem b31 (M : Mode) (call : CallT) (dcall : DcallT) (a0 : D) (A : St) : bodyN M Tryz.prog rxHint kk call dcall 31 [a0] A = f31 M call dcall a0.canon A := by
  kernel_rfl
theorem r31 (a0 : D) (A : St) : Run Tryz.prog rxA 31 [a0] A = f31 mL (Run Tryz.prog rxA) (Dcall Tryz.prog rxA) a0.canon A := (Run_eqN Tryz.prog rxA kk rfl rfl _ _).trans (b31 mL (Run Tryz.prog rxA) (Dcall Tryz.prog rxA) a0 A)
noncomputable def f32_s0 (M : Mode) (call : CallT) (dcall : DcallT) (A : St) (e : Env) (Av5 : St) : (Option ((Env × St) ⊕ (Res × St))) :=
(bn (fieldAddrO 1 (e.g 3)) fun x0 =>
(bn (mp (loadO false 1 x0 Av5) fun x1 => (x1, Av5)) fun x1 =>
(bn (lenSlO x1.1) fun x2 =>
(bn (binO .lss 3 false (e.g 5) x2) fun x3 =>
(bn (D.bool? x3) fun x4 =>
(ifb x4 (bn (fieldAddrO 1 (e.g 3)) fun x5 =>
(bn (mp (mp (loadO false 1 x5 x1.2) fun x6 => (x6, x1.2)) fun x6 => x6.1) fun x6 =>
(bn (indexAddrO 1 false x6 (e.g 5)) fun x7 =>
(bn (mp (mp (loadO false 1 x7 x1.2) fun x8 => (x8, x1.2)) fun x8 => x8.1) fun x8 =>
(bn (fieldAddrO 1 (e.g 2)) fun x9 =>
(bn (mp (mp (loadO false 1 x9 x1.2) fun x10 => (x10, x1.2)) fun x10 => x10.1) fun x10 =>
(bn (binO .eql 3 false x8 x10) fun x11 =>
(@Mode.gs M ((Env × St) ⊕ (Res × St)) True true (bn (D.bool? x11) fun x12 =>
(ifb x12 (Option.map (Sum.inr ) (bn (leavesD dcall (fun (x13 : St) => (some (D.bool true))) (e).df none x1.2) fun x13 =>
(leaveM M RetK.can A x13.1 x13.2)))
(bn (binO .add 3 true (e.g 5) (n64 1)) fun x13 =>
(@Mode.gk M ((Env × St) ⊕ (Res × St)) Av5 x1.2 (some (Sum.inl ((Env.mk (sp [(2, (D.shut (List.length Av5) (e.g 2))), (0, (D.shut (List.length Av5) (e.g 3))), (1, (D.shut (List.length Av5) x13))] 26) (List.map (fun (x14 : (D × (List D))) => ((D.shut (List.length Av5) x14.1), (D.shutL (List.length Av5) x14.2))) (e).df)), (List.take (List.length Av5) x1.2))))))))))))))))
(Option.map (Sum.inr ) (bn (leavesD dcall (fun (x5 : St) => (some (D.bool false))) (e).df none x1.2) fun x5 =>
(leaveM M RetK.can A x5.1 x5.2)))))))))
noncomputable def f32 (M : Mode) (call : CallT) (dcall : DcallT) (a0 : D) (a1 : D) (A : St) : (Option (Res × St)) :=
(bn (boxO true a0 A) fun x0 =>
(bn (boxO true a1 x0.2) fun x1 =>
(bn (fieldAddrO 0 x0.1) fun x2 =>
(bn (mp (loadO false 1 x2 x1.2) fun x3 => (x3, x1.2)) fun x3 =>
(bn (binO .eql 3 true x3.1 (n64 1)) fun x4 =>
(bn (D.bool? x4) fun x5 =>
(ifb x5 (bn (fieldAddrO 0 x1.1) fun x6 =>
(bn (mp (loadO false 1 x6 x3.2) fun x7 => (x7, x3.2)) fun x7 =>
(bn (fieldAddrO 1 x0.1) fun x8 =>
(bn (mp (loadO false 1 x8 x7.2) fun x9 => (x9, x7.2)) fun x9 =>
(bn (binO .eql 3 false x7.1 x9.1) fun x10 =>
(leaveM M RetK.can A (Res.ret x10) x9.2))))))
(bn (binO .eql 3 true x3.1 (n64 3)) fun x6 =>
(bn (D.bool? x6) fun x7 =>
(ifb x7 (leaveM M RetK.can A (Res.ret (D.bool true)) x3.2)
(@Mode.it M (Res × St) (f32_s0 M call dcall A) (Env.mk (sp [(2, x0.1), (0, x1.1), (1, (n64 0))] 26) []) x3.2)))))))))))
theorem b32 (M : Mode) (call : CallT) (dcall : DcallT) (a0 a1 : D) (A : St) : bodyN M Tryz.prog rxHint kk call dcall 32 [a0, a1] A = f32 M call dcall a0.canon a1.canon A := by
  kernel_rfl
theorem r32 (a0 a1 : D) (A : St) : Run Tryz.prog rxA 32 [a0, a1] A = f32 mL (Run Tryz.prog rxA) (Dcall Tryz.prog rxA) a0.canon a1.canon A := (Run_eqN Tryz.prog rxA kk rfl rfl _ _).trans (b32 mL (Run Tryz.prog rxA) (Dcall Tryz.prog rxA) a0 a1 A)
noncomputable def f33_s0 (M : Mode) (call : CallT) (dcall : DcallT) (e : Env) (A : St) : (Option ((Env × St) ⊕ ((Env × St) ⊕ ((Env × St) ⊕ (Res × St))))) :=
(bn (lenSlO (e.g 0)) fun x0 =>
(bn (binO .lss 3 false (e.g 8) x0) fun x1 =>
(bn (guardB true x1) fun x2 =>
(bn (ifb x2 (some (e.g 0))
(some (D.tup []))) fun x3 =>
(bn (guardB true x1) fun x4 =>
(bn (ifb x4 (some (e.g 6))
(some (D.tup []))) fun x5 =>
(bn (guardB true x1) fun x6 =>
(bn (ifb x6 (indexAddrO 1 false x3 x5)
(some (D.tup []))) fun x7 =>
(bn (guardB true x1) fun x8 =>
(bn (ifb x8 (mp (loadO false 1 x7 A) fun x9 => (x9, A))
(some ((D.tup []), A))) fun x9 =>
(bn (guardB true x1) fun x10 =>
(bn (ifb x10 (some (e.g 7))
(some (D.tup []))) fun x11 =>
(bn (guardB true x1) fun x12 =>
(bn (ifb x12 (indexAddrO 1 false x9.1 x11)
(some (D.tup []))) fun x13 =>
(bn (guardB true x1) fun x14 =>
(bn (ifb x14 (mp (loadO false 1 x13 x9.2) fun x15 => (x15, x9.2))
(some ((D.tup []), x9.2))) fun x15 =>
(bn (mp (D.bool? x1) fun x16 => (ifb x16 x15.1
(D.bool false))) fun x16 =>
(bn (D.bool? x16) fun x17 =>
(ifb x17 (bn (indexAddrO 1 false (e.g 5) (e.g 6)) fun x18 =>
(bn (mp (mp (loadO false 1 x18 x15.2) fun x19 => (x19, x15.2)) fun x19 => x19.1) fun x19 =>
(bn (indexAddrO 1 false (e.g 5) (e.g 6)) fun x20 =>
(bn (mp (mp (loadO false 1 x20 x15.2) fun x21 => (x21, x15.2)) fun x21 => x21.1) fun x21 =>
(bn (indexAddrO 1 false x21 (e.g 8)) fun x22 =>
(bn (mp (mp (loadO false 1 x22 x15.2) fun x23 => (x23, x15.2)) fun x23 => x23.1) fun x23 =>
(bn (guardB false x23) fun x24 =>
(bn (ifb x24 (some (e.g 1))
(some (D.tup []))) fun x25 =>
(bn (guardB false x23) fun x26 =>
(bn (ifb x26 (some (e.g 7))
(some (D.tup []))) fun x27 =>
(bn (guardB false x23) fun x28 =>
(bn (ifb x28 (indexAddrO 1 false x25 x27)
(some (D.tup []))) fun x29 =>
(bn (guardB false x23) fun x30 =>
(bn (ifb x30 (mp (mp (loadO false 1 x29 x15.2) fun x31 => (x31, x15.2)) fun x31 => x31.1)
(some (D.tup []))) fun x31 =>
(bn (guardB false x23) fun x32 =>
(bn (ifb x32 (some (e.g 8))
(some (D.tup []))) fun x33 =>
(bn (guardB false x23) fun x34 =>
(bn (ifb x34 (indexAddrO 1 false x31 x33)
(some (D.tup []))) fun x35 =>
(bn (guardB false x23) fun x36 =>
(bn (ifb x36 (mp (mp (loadO false 1 x35 x15.2) fun x37 => (x37, x15.2)) fun x37 => x37.1)
(some (D.tup []))) fun x37 =>
(bn (mp (D.bool? x23) fun x38 => (ifb x38 (D.bool true)
 x37)) fun x38 =>
(bn (indexAddrO 1 false x19 (e.g 8)) fun x39 =>
(bn (mp (storeO false 1 x39 x38 x15.2) fun x40 => ((D.tup []), x40)) fun x40 =>
(@Mode.gs M ((Env × St) ⊕ ((Env × St) ⊕ ((Env × St) ⊕ (Res × St)))) True true (bn (binO .add 3 true (e.g 8) (n64 1)) fun x41 =>
(some (Sum.inl ((Env.mk (sp [(0, (e.g 0)), (0, (e.g 1)), (3, (e.g 5)), (0, (e.g 6)), (0, (e.g 7)), (0, x41)] 54) (e).df), x40.2))))))))))))))))))))))))))))
(Option.map (Sum.inr ) (bn (binO .add 3 true (e.g 7) (n64 1)) fun x18 =>
(some (Sum.inl ((Env.mk (sp [(0, (e.g 0)), (0, (e.g 1)), (3, (e.g 5)), (0, (e.g 6)), (0, x18)] 55) (e).df), x15.2))))))))))))))))))))))))
noncomputable def f33_s1 (M : Mode) (call : CallT) (dcall : DcallT) (e : Env) (A : St) : (Option ((Env × St) ⊕ ((Env × St) ⊕ (Res × St)))) :=
(bn (lenSlO (e.g 0)) fun x0 =>
(bn (binO .lss 3 false (e.g 7) x0) fun x1 =>
(bn (D.bool? x1) fun x2 =>
(ifb x2 (@Mode.it M ((Env × St) ⊕ ((Env × St) ⊕ (Res × St))) (f33_s0 M call dcall) (Env.mk (sp [(0, (e.g 0)), (0, (e.g 1)), (3, (e.g 5)), (0, (e.g 6)), (0, (e.g 7)), (0, (n64 0))] 54) (e).df) A)
(Option.map (Sum.inr ) (bn (binO .add 3 true (e.g 6) (n64 1)) fun x3 =>
(some (Sum.inl ((Env.mk (sp [(0, (e.g 0)), (0, (e.g 1)), (3, (e.g 5)), (0, x3)] 56) (e).df), A)))))))))
noncomputable def f33_s2 (M : Mode) (call : CallT) (dcall : DcallT) (A : St) (e : Env) (Av5 : St) : (Option ((Env × St) ⊕ (Res × St))) :=
(bn (lenSlO (e.g 0)) fun x0 =>
(bn (binO .lss 3 false (e.g 6) x0) fun x1 =>
(bn (D.bool? x1) fun x2 =>
(ifb x2 (@Mode.it M ((Env × St) ⊕ (Res × St)) (f33_s1 M call dcall) (Env.mk (sp [(0, (e.g 0)), (0, (e.g 1)), (3, (e.g 5)), (0, (e.g 6)), (0, (n64 0))] 55) (e).df) Av5)
(Option.map (Sum.inr ) (bn (leavesD dcall (fun (x3 : St) => (some (e.g 5))) (e).df none Av5) fun x3 =>
(leaveM M RetK.keep A x3.1 x3.2)))))))
noncomputable def f33 (M : Mode) (call : CallT) (dcall : DcallT) (a0 : D) (a1 : D) (A : St) : (Option (Res × St)) :=
(bn (lenSlO a0) fun x0 =>
(bn (binO .sub 3 true x0 (n64 1)) fun x1 =>
(bn (call 31 [x1] A) fun x2 =>
(Res.elim x2.1 (fun x3 => (@Mode.it M (Res × St) (f33_s2 M call dcall A) (Env.mk (sp [(0, a0), (0, a1), (3, x3), (0, (n64 0))] 56) []) x2.2)) (fun x3 => (leaveM M RetK.keep A (Res.pan x3) x2.2))))))
theorem b33 (M : Mode) (call : CallT) (dcall : DcallT) (a0 a1 : D) (A : St) : bodyN M Tryz.prog rxHint kk call dcall 33 [a0, a1] A = f33 M call dcall a0.canon a1.canon A := by
  kernel_rfl
theorem r33 (a0 a1 : D) (A : St) : Run Tryz.prog rxA 33 [a0, a1] A = f33 mL (Run Tryz.prog rxA) (Dcall Tryz.prog rxA) a0.canon a1.canon A := (Run_eqN Tryz.prog rxA kk rfl rfl _ _).trans (b33 mL (Run Tryz.prog rxA) (Dcall Tryz.prog rxA) a0 a1 A)
noncomputable def f34_s0 (M : Mode) (call : CallT) (dcall : DcallT) (e : Env) (A : St) : (Option ((Env × St) ⊕ ((Env × St) ⊕ (Res × St)))) :=
(bn (lenSlO (e.g 0)) fun x0 =>
(bn (binO .lss 3 false (e.g 7) x0) fun x1 =>
(bn (D.bool? x1) fun x2 =>
(ifb x2 (bn (indexAddrO 1 false (e.g 5) (e.g 6)) fun x3 =>
(bn (mp (mp (loadO false 1 x3 A) fun x4 => (x4, A)) fun x4 => x4.1) fun x4 =>
(bn (indexAddrO 1 false (e.g 0) (e.g 6)) fun x5 =>
(bn (mp (mp (loadO false 1 x5 A) fun x6 => (x6, A)) fun x6 => x6.1) fun x6 =>
(bn (indexAddrO 1 false x6 (e.g 7)) fun x7 =>
(bn (mp (mp (loadO false 1 x7 A) fun x8 => (x8, A)) fun x8 => x8.1) fun x8 =>
(bn (guardB false x8) fun x9 =>
(bn (ifb x9 (some (e.g 1))
(some (D.tup []))) fun x10 =>
(bn (guardB false x8) fun x11 =>
(bn (ifb x11 (some (e.g 6))
(some (D.tup []))) fun x12 =>
(bn (guardB false x8) fun x13 =>
(bn (ifb x13 (indexAddrO 1 false x10 x12)
(some (D.tup []))) fun x14 =>
(bn (guardB false x8) fun x15 =>
(bn (ifb x15 (mp (mp (loadO false 1 x14 A) fun x16 => (x16, A)) fun x16 => x16.1)
(some (D.tup []))) fun x16 =>
(bn (guardB false x8) fun x17 =>
(bn (ifb x17 (some (e.g 7))
(some (D.tup []))) fun x18 =>
(bn (guardB false x8) fun x19 =>
(bn (ifb x19 (indexAddrO 1 false x16 x18)
(some (D.tup []))) fun x20 =>
(bn (guardB false x8) fun x21 =>
(bn (ifb x21 (mp (mp (loadO false 1 x20 A) fun x22 => (x22, A)) fun x22 => x22.1)
(some (D.tup []))) fun x22 =>
(bn (mp (D.bool? x8) fun x23 => (ifb x23 (D.bool true)
 x22)) fun x23 =>
(bn (indexAddrO 1 false x4 (e.g 7)) fun x24 =>
(bn (mp (storeO false 1 x24 x23 A) fun x25 => ((D.tup []), x25)) fun x25 =>
(@Mode.gs M ((Env × St) ⊕ ((Env × St) ⊕ (Res × St))) True true (bn (binO .add 3 true (e.g 7) (n64 1)) fun x26 =>
(some (Sum.inl ((Env.mk (sp [(0, (e.g 0)), (0, (e.g 1)), (3, (e.g 5)), (0, (e.g 6)), (0, x26)] 39) (e).df), x25.2))))))))))))))))))))))))))))
(Option.map (Sum.inr ) (bn (binO .add 3 true (e.g 6) (n64 1)) fun x3 =>
(some (Sum.inl ((Env.mk (sp [(0, (e.g 0)), (0, (e.g 1)), (3, (e.g 5)), (0, x3)] 40) (e).df), A)))))))))
noncomputable def f34_s1 (M : Mode) (call : CallT) (dcall : DcallT) (A : St) (e : Env) (Av5 : St) : (Option ((Env × St) ⊕ (Res × St))) :=
(bn (lenSlO (e.g 0)) fun x0 =>
(bn (binO .lss 3 false (e.g 6) x0) fun x1 =>
(bn (D.bool? x1) fun x2 =>
(ifb x2 (@Mode.it M ((Env × St) ⊕ (Res × St)) (f34_s0 M call dcall) (Env.mk (sp [(0, (e.g 0)), (0, (e.g 1)), (3, (e.g 5)), (0, (e.g 6)), (0, (n64 0))] 39) (e).df) Av5)
(Option.map (Sum.inr ) (bn (leavesD dcall (fun (x3 : St) => (some (e.g 5))) (e).df none Av5) fun x3 =>
(leaveM M RetK.keep A x3.1 x3.2)))))))
noncomputable def f34 (M : Mode) (call : CallT) (dcall : DcallT) (a0 : D) (a1 : D) (A : St) : (Option (Res × St)) :=
(bn (lenSlO a0) fun x0 =>
(bn (binO .sub 3 true x0 (n64 1)) fun x1 =>
(bn (call 31 [x1] A) fun x2 =>
(Res.elim x2.1 (fun x3 => (@Mode.it M (Res × St) (f34_s1 M call dcall A) (Env.mk (sp [(0, a0), (0, a1), (3, x3), (0, (n64 0))] 40) []) x2.2)) (fun x3 => (leaveM M RetK.keep A (Res.pan x3) x2.2))))))
theorem b34 (M : Mode) (call : CallT) (dcall : DcallT) (a0 a1 : D) (A : St) : bodyN M Tryz.prog rxHint kk call dcall 34 [a0, a1] A = f34 M call dcall a0.canon a1.canon A := by
  kernel_rfl
theorem r34 (a0 a1 : D) (A : St) : Run Tryz.prog rxA 34 [a0, a1] A = f34 mL (Run Tryz.prog rxA) (Dcall Tryz.prog rxA) a0.canon a1.canon A := (Run_eqN Tryz.prog rxA kk rfl rfl _ _).trans (b34 mL (Run Tryz.prog rxA) (Dcall Tryz.prog rxA) a0 a1 A)
noncomputable def f37_s0 (M : Mode) (call : CallT) (dcall : DcallT) (A : St) (e : Env) (Av5 : St) : (Option ((Env × St) ⊕ (Res × St))) :=
(bn (lenSlO (e.g 0)) fun x0 =>
(bn (binO .lss 3 false (e.g 7) x0) fun x1 =>
(bn (D.bool? x1) fun x2 =>
(ifb x2 (bn (indexAddrO 1 false (e.g 0) (e.g 7)) fun x3 =>
(bn (mp (loadO false 1 x3 Av5) fun x4 => (x4, Av5)) fun x4 =>
(bn (binO .eql 3 false x4.1 (e.g 1)) fun x5 =>
(bn (D.bool? x5) fun x6 =>
(ifb x6 (Option.map (Sum.inr ) (bn (leavesD dcall (fun (x7 : St) => (some (e.g 0))) (e).df none x4.2) fun x7 =>
(leaveM M RetK.can A x7.1 x7.2)))
(bn (unD UnOp.not (e.g 6)) fun x7 =>
(bn (guardB true x7) fun x8 =>
(bn (ifb x8 (some (e.g 1))
(some (D.tup []))) fun x9 =>
(bn (guardB true x7) fun x10 =>
(bn (ifb x10 (some (e.g 0))
(some (D.tup []))) fun x11 =>
(bn (guardB true x7) fun x12 =>
(bn (ifb x12 (some (e.g 7))
(some (D.tup []))) fun x13 =>
(bn (guardB true x7) fun x14 =>
(bn (ifb x14 (indexAddrO 1 false x11 x13)
(some (D.tup []))) fun x15 =>
(bn (guardB true x7) fun x16 =>
(bn (ifb x16 (mp (loadO false 1 x15 x4.2) fun x17 => (x17, x4.2))
(some ((D.tup []), x4.2))) fun x17 =>
(bn (guardB true x7) fun x18 =>
(bn (ifb x18 (binO .lss 3 false x9 x17.1)
(some (D.tup []))) fun x19 =>
(bn (mp (D.bool? x7) fun x20 => (ifb x20 x19
(D.bool false))) fun x20 =>
(bn (D.bool? x20) fun x21 =>
(bn (ifb x21 (bn (mp (Option.map (D.sl Own.full 1) (sliceParts 1 false 0 [(0, (e.g 1))])) fun x22 => (x22, x17.2)) fun x22 =>
(bn (appendO 1 16 (e.g 5) x22.1 x22.2) fun x23 =>
(some (Sum.inl ((Env.mk (sp [(0, (e.g 0)), (0, (e.g 1)), (3, x23.1), (0, (D.bool true)), (0, (e.g 7))] 41) (e).df), x23.2)))))
(some (Sum.inl ((Env.mk (sp [(0, (e.g 0)), (0, (e.g 1)), (3, (e.g 5)), (0, (e.g 6)), (0, (e.g 7))] 41) (e).df), x17.2)))) fun x22 =>
(Sum.elim (fun (x23 : (Env × St)) => (bn (indexAddrO 1 false (x23.1.g 0) (x23.1.g 7)) fun x24 =>
(bn (mp (loadO false 1 x24 x23.2) fun x25 => (x25, x23.2)) fun x25 =>
(bn (mp (Option.map (D.sl Own.full 1) (sliceParts 1 false 0 [(0, x25.1)])) fun x26 => (x26, x25.2)) fun x26 =>
(bn (appendO 1 16 (x23.1.g 5) x26.1 x26.2) fun x27 =>
(bn (binO .add 3 true (x23.1.g 7) (n64 1)) fun x28 =>
(some (Sum.inl ((Env.mk (sp [(0, (x23.1.g 0)), (0, (x23.1.g 1)), (3, x27.1), (0, (x23.1.g 6)), (0, x28)] 41) (x23.1).df), x27.2))))))))) (fun (x23 : ((Env × St) ⊕ (Res × St))) => (some x23)) x22))))))))))))))))))))))
(Option.map (Sum.inr ) (bn (unD UnOp.not (e.g 6)) fun x3 =>
(bn (D.bool? x3) fun x4 =>
(bn (ifb x4 (bn (mp (Option.map (D.sl Own.full 1) (sliceParts 1 false 0 [(0, (e.g 1))])) fun x5 => (x5, Av5)) fun x5 =>
(bn (appendO 1 16 (e.g 5) x5.1 x5.2) fun x6 =>
(some (Sum.inl ((Env.mk (sp [(5, x6.1)] 43) (e).df), x6.2)))))
(some (Sum.inl ((Env.mk (sp [(5, (e.g 5))] 43) (e).df), Av5)))) fun x5 =>
(Sum.elim (fun (x6 : (Env × St)) => (bn (leavesD dcall (fun (x7 : St) => (some (x6.1.g 5))) (x6.1).df none x6.2) fun x7 =>
(leaveM M RetK.can A x7.1 x7.2))) (fun (x6 : (Res × St)) => (some x6)) x5)))))))))
noncomputable def f37 (M : Mode) (call : CallT) (dcall : DcallT) (a0 : D) (a1 : D) (A : St) : (Option (Res × St)) :=
(@Mode.it M (Res × St) (f37_s0 M call dcall A) (Env.mk (sp [(0, a0), (0, a1), (3, (D.sl Own.full 0 [])), (0, (D.bool false)), (0, (n64 0))] 41) []) A)
theorem b37 (M : Mode) (call : CallT) (dcall : DcallT) (a0 a1 : D) (A : St) : bodyN M Tryz.prog rxHint kk call dcall 37 [a0, a1] A = f37 M call dcall a0.canon a1.canon A := by
  kernel_rfl
theorem r37 (a0 a1 : D) (A : St) : Run Tryz.prog rxA 37 [a0, a1] A = f37 mL (Run Tryz.prog rxA) (Dcall Tryz.prog rxA) a0.canon a1.canon A := (Run_eqN Tryz.prog rxA kk rfl rfl _ _).trans (b37 mL (Run Tryz.prog rxA) (Dcall Tryz.prog rxA) a0 a1 A)
noncomputable def f38 (M : Mode) (call : CallT) (dcall : DcallT) (a0 : D) (A : St) : (Option (Res × St)) :=
(bn (allocO [(D.sl Own.full 0 [])] A) fun x0 =>
(bn (allocO [(n64 0)] x0.2) fun x1 =>
(bn (allocO [(n64 0)] x1.2) fun x2 =>
(bn (allocO [(n64 0)] x2.2) fun x3 =>
(bn (lenStrO a0) fun x4 =>
(bn (binO .gtr 3 true x4 (n64 1048576)) fun x5 =>
(bn (D.bool? x5) fun x6 =>
(ifb x6 (bn (mp (storeO false 1 x0.1 (D.sl Own.full 0 []) x3.2) fun x7 => ((D.tup []), x7)) fun x7 =>
(bn (mp (storeO false 1 x1.1 (n64 0) x7.2) fun x8 => ((D.tup []), x8)) fun x8 =>
(bn (mp (storeO false 1 x2.1 (n64 0) x8.2) fun x9 => ((D.tup []), x9)) fun x9 =>
(bn (mp (storeO false 1 x3.1 (n64 2) x9.2) fun x10 => ((D.tup []), x10)) fun x10 =>
(bn (mp (Option.map packD (Option.bind (loadO false 1 x0.1 x10.2) (fun x11 => (mp (Option.bind (loadO false 1 x1.1 x10.2) (fun x12 => (mp (Option.bind (loadO false 1 x2.1 x10.2) (fun x13 => (mp (Option.bind (loadO false 1 x3.1 x10.2) (fun x14 => (some [x14]))) fun x14 => (@List.cons D x13 x14)))) fun x13 => (@List.cons D x12 x13)))) fun x12 => (@List.cons D x11 x12))))) fun x11 => ((Res.ret x11), x10.2)) fun x11 =>
(leaveM M RetK.can A x11.1 x11.2))))))
(bn (allocO [(n64 0)] x3.2) fun x7 =>
(bn (mp (storeO false 1 x7.1 (n64 0) x7.2) fun x8 => ((D.tup []), x8)) fun x8 =>
(bn (allocO [(D.sl Own.full 0 [])] x8.2) fun x9 =>
(bn (tokO [(0, 1)] x9.1 x9.2) fun x10 =>
(bn (call 51 [a0, (D.str [(10 : UInt8)])] x10.2) fun x11 =>
(Res.elim x11.1 (fun x12 => (bn (seqCall Proofs.Tryz.prog call x12 (HAdd.hAdd (List.length x11.2) 1) (x11.2 ++ [Slot.dfb, (Slot.loop 38 [D.any, D.any, D.any, D.any, D.any, D.any, x7.1, x10.1, D.any, D.any, D.any, D.any, D.any, D.any, D.any, D.any, D.any, D.any, D.any, D.any, D.any, D.any, D.any, D.any, D.any, D.any, D.any, D.any, D.any, D.any, D.any, D.any, D.any, D.any, D.any, D.any, D.any, D.any, D.any, D.any] (rfAt Proofs.Tryz.prog 38 8) RSt.ready)])) fun x13 =>
(Res.elim x13.1 (fun x14 => (bn (endX (HAdd.hAdd (List.length x11.2) 1) x13.2) fun x15 =>
(Out.seqK (Out.block 0 (Out.mk x15.1 (Env.mk (sp [(0, a0), (0, (D.tup [])), (0, x0.1), (0, x1.1), (0, x2.1), (0, x3.1), (0, x7.1), (0, x10.1), (0, (D.tup [])), (0, (D.tup [])), (0, a0), (0, x4), (0, (D.bool false)), (0, (D.fn (Fn.func 50) [] [x0.1, x1.1, x2.1, x3.1])), (0, a0), (0, x12), (0, (D.tup [])), (0, (D.tup [])), (0, (D.tup [])), (0, (D.tup [])), (0, (D.tup [])), (0, (D.tup [])), (0, (D.tup [])), (0, (D.tup [])), (0, (D.tup [])), (0, (D.tup [])), (0, (D.tup [])), (0, (D.tup [])), (0, (D.tup [])), (0, (D.tup [])), (0, (D.tup [])), (0, (D.tup [])), (0, (D.tup [])), (0, (D.tup [])), (0, (D.tup [])), (0, (D.tup [])), (0, (D.tup [])), (0, (D.tup [])), (0, (D.tup [])), (0, (D.tup []))] 0) [((D.yld true (List.length x11.2)), []), ((D.fn (Fn.func 50) [] [x0.1, x1.1, x2.1, x3.1]), [])]) x15.2)) (fun (x16 : Env) => (fun (x17 : St) => (bn (mp (loadO false 1 (x16.g 7) x17) fun x18 => (x18, x17)) fun x18 =>
(bn (mp (storeO false 1 (x16.g 2) x18.1 x18.2) fun x19 => ((D.tup []), x19)) fun x19 =>
(bn (mp (storeO false 1 (x16.g 3) (n64 0) x19.2) fun x20 => ((D.tup []), x20)) fun x20 =>
(bn (mp (storeO false 1 (x16.g 4) (n64 0) x20.2) fun x21 => ((D.tup []), x21)) fun x21 =>
(bn (mp (storeO false 1 (x16.g 5) (n64 0) x21.2) fun x22 => ((D.tup []), x22)) fun x22 =>
(bn (leavesD dcall (fun (x23 : St) => (Option.map packD (Option.bind (loadO false 1 (x16.g 2) x23) (fun x24 => (mp (Option.bind (loadO false 1 (x16.g 3) x23) (fun x25 => (mp (Option.bind (loadO false 1 (x16.g 4) x23) (fun x26 => (mp (Option.bind (loadO false 1 (x16.g 5) x23) (fun x27 => (some [x27]))) fun x27 => (@List.cons D x26 x27)))) fun x26 => (@List.cons D x25 x26)))) fun x25 => (@List.cons D x24 x25)))))) (x16).df none x22.2) fun x23 =>
(leaveM M RetK.can A x23.1 x23.2))))))))) (fun (x16 : Out) => (bn (Out.leave x16 (fun (x17 : Env) => (fun (x18 : (Option D)) => (fun (x19 : St) => (leavesD dcall (fun (x20 : St) => (Option.map packD (Option.bind (loadO false 1 (List.getD x17.t 2 (D.tup [])) x20) (fun x21 => (mp (Option.bind (loadO false 1 (List.getD x17.t 3 (D.tup [])) x20) (fun x22 => (mp (Option.bind (loadO false 1 (List.getD x17.t 4 (D.tup [])) x20) (fun x23 => (mp (Option.bind (loadO false 1 (List.getD x17.t 5 (D.tup [])) x20) (fun x24 => (some [x24]))) fun x24 => (@List.cons D x23 x24)))) fun x23 => (@List.cons D x22 x23)))) fun x22 => (@List.cons D x21 x22)))))) (x17).df x18 x19))))) fun x17 =>
(leaveM M RetK.can A x17.1 x17.2)))))) (fun x14 => (bn (leavesD dcall (fun (x15 : St) => (Option.map packD (Option.bind (loadO false 1 x0.1 x15) (fun x16 => (mp (Option.bind (loadO false 1 x1.1 x15) (fun x17 => (mp (Option.bind (loadO false 1 x2.1 x15) (fun x18 => (mp (Option.bind (loadO false 1 x3.1 x15) (fun x19 => (some [x19]))) fun x19 => (@List.cons D x18 x19)))) fun x18 => (@List.cons D x17 x18)))) fun x17 => (@List.cons D x16 x17)))))) [((D.yld true (List.length x11.2)), []), ((D.fn (Fn.func 50) [] [x0.1, x1.1, x2.1, x3.1]), [])] (some x14) x13.2) fun x15 =>
(leaveM M RetK.can A x15.1 x15.2)))))) (fun x12 => (bn (leavesD dcall (fun (x13 : St) => (Option.map packD (Option.bind (loadO false 1 x0.1 x13) (fun x14 => (mp (Option.bind (loadO false 1 x1.1 x13) (fun x15 => (mp (Option.bind (loadO false 1 x2.1 x13) (fun x16 => (mp (Option.bind (loadO false 1 x3.1 x13) (fun x17 => (some [x17]))) fun x17 => (@List.cons D x16 x17)))) fun x16 => (@List.cons D x15 x16)))) fun x15 => (@List.cons D x14 x15)))))) [((D.fn (Fn.func 50) [] [x0.1, x1.1, x2.1, x3.1]), [])] (some x12) x11.2) fun x13 =>
(leaveM M RetK.can A x13.1 x13.2)))))))))))))))))
theorem b38 (M : Mode) (call : CallT) (dcall : DcallT) (a0 : D) (A : St) : bodyN M Tryz.prog rxHint kk call dcall 38 [a0] A = f38 M call dcall a0.canon A := by
  kernel_rfl
noncomputable def f39_s0 (M : Mode) (call : CallT) (dcall : DcallT) (A : St) (e : Env) (Av5 : St) : (Option ((Env × St) ⊕ (Res × St))) :=
(bn (binO .lss 3 false (e.g 27) (e.g 26)) fun x0 =>
(bn (D.bool? x0) fun x1 =>
(ifb x1 (bn (indexAddrO 1 false (e.g 25) (e.g 27)) fun x2 =>
(bn (mp (loadO false 1 x2 Av5) fun x3 => (x3, Av5)) fun x3 =>
(bn (appendO 3 32 (e.g 6) x3.1 x3.2) fun x4 =>
(bn (binO .add 3 true (e.g 27) (n64 1)) fun x5 =>
(some (Sum.inl ((Env.mk (sp [(6, x4.1), (18, (e.g 25)), (0, (e.g 26)), (0, x5)] 8) (e).df), x4.2)))))))
(Option.map (Sum.inr ) (bn (leavesD dcall (fun (x2 : St) => (some (e.g 6))) (e).df none Av5) fun x2 =>
(leaveM M RetK.own A x2.1 x2.2))))))
noncomputable def f39_s1 (M : Mode) (call : CallT) (dcall : DcallT) (A : St) (e : Env) (Av5 : St) : (Option ((Env × St) ⊕ (Res × St))) :=
(bn (binO .lss 3 false (e.g 11) (e.g 10)) fun x0 =>
(bn (D.bool? x0) fun x1 =>
(ifb x1 (bn (indexAddrO 1 false (e.g 9) (e.g 11)) fun x2 =>
(bn (mp (loadO false 1 x2 Av5) fun x3 => (x3, Av5)) fun x3 =>
(bn (lenSlO x3.1) fun x4 =>
(bn (binO .add 3 false (e.g 3) x4) fun x5 =>
(bn (binO .lss 3 true x5 (n64 0)) fun x6 =>
(bn (D.bool? x6) fun x7 =>
(bn (ifb x7 (Option.map (Sum.inr ) (Option.map (Sum.inr ) (bn (leavesD dcall (fun (x8 : St) => (some (e.g 2))) (e).df (some (D.iface 9 (D.str [(108 : UInt8), (101 : UInt8), (110 : UInt8), (32 : UInt8), (111 : UInt8), (117 : UInt8), (116 : UInt8), (32 : UInt8), (111 : UInt8), (102 : UInt8), (32 : UInt8), (114 : UInt8), (97 : UInt8), (110 : UInt8), (103 : UInt8), (101 : UInt8)]))) x3.2) fun x8 =>
(leaveM M RetK.own A x8.1 x8.2))))
(some (Sum.inl ((Env.mk (sp [(0, (e.g 0)), (2, x5), (5, (e.g 9)), (0, (e.g 10)), (0, (e.g 11))] 24) (e).df), x3.2)))) fun x8 =>
(Sum.elim (fun (x9 : (Env × St)) => (bn (binO .add 3 true (x9.1.g 11) (n64 1)) fun x10 =>
(some (Sum.inl ((Env.mk (sp [(0, (x9.1.g 0)), (2, (x9.1.g 3)), (5, (x9.1.g 9)), (0, (x9.1.g 10)), (0, x10)] 24) (x9.1).df), x9.2))))) (fun (x9 : ((Env × St) ⊕ (Res × St))) => (some x9)) x8))))))))
(Option.map (Sum.inr ) (bn (call 53 [(D.sl Own.full 0 []), (e.g 3)] Av5) fun x2 =>
(Res.elim x2.1 (fun x3 => (bn (lenSlO (e.g 0)) fun x4 =>
(@Mode.it M (Res × St) (f39_s0 M call dcall A) (Env.mk (sp [(6, x3), (18, (e.g 0)), (0, x4), (0, (n64 0))] 8) (e).df) x2.2))) (fun x3 => (bn (leavesD dcall (fun (x4 : St) => (some (e.g 2))) (e).df (some x3) x2.2) fun x4 =>
(leaveM M RetK.own A x4.1 x4.2)))))))))
noncomputable def f39 (M : Mode) (call : CallT) (dcall : DcallT) (a0 : D) (A : St) : (Option (Res × St)) :=
(bn (lenSlO a0) fun x0 =>
(@Mode.it M (Res × St) (f39_s1 M call dcall A) (Env.mk (sp [(0, a0), (2, (n64 0)), (5, a0), (0, x0), (0, (n64 0))] 24) []) A))
theorem b39 (M : Mode) (call : CallT) (dcall : DcallT) (a0 : D) (A : St) : bodyN M Tryz.prog rxHint kk call dcall 39 [a0] A = f39 M call dcall a0.canon A := by
  kernel_rfl
noncomputable def f40 (M : Mode) (call : CallT) (dcall : DcallT) (a0 : D) (A : St) : (Option (Res × St)) :=
(bn (allocO [(n64 0), (D.str []), (D.sl Own.full 0 [])] A) fun x0 =>
(bn (allocO [(n64 0)] x0.2) fun x1 =>
(bn (allocO [(n64 0)] x1.2) fun x2 =>
(bn (Option.map D.agg (Option.bind (layCells false 1 0 [(D.sl Own.full 0 []), (n64 0)] a0) (fun (x3 : (List D)) => (some x3)))) fun x3 =>
(bn (Option.map D.agg (Option.bind (layCells true 2 0 [(D.sl Own.full 0 []), (n64 0), (n64 0)] x3) (fun (x4 : (List D)) => (some x4)))) fun x4 =>
(bn (boxO true x4 x2.2) fun x5 =>
(bn (call 55 [x5.1] x5.2) fun x6 =>
(Res.elim x6.1 (fun x7 => (bn (allocO [(n64 0), (D.str []), (D.sl Own.full 0 [])] x6.2) fun x8 =>
(bn (mp (storeO true 3 x8.1 x7 x8.2) fun x9 => ((D.tup []), x9)) fun x9 =>
(bn (nilCheckD x5.1) fun x10 =>
(bn (fieldAddrO 0 x10) fun x11 =>
(bn (fieldAddrO 1 x11) fun x12 =>
(bn (mp (loadO false 1 x12 x9.2) fun x13 => (x13, x9.2)) fun x13 =>
(bn (lenSlO a0) fun x14 =>
(bn (binO .lss 3 false x13.1 x14) fun x15 =>
(bn (D.bool? x15) fun x16 =>
(bn (ifb x16 (bn (nilCheckD x5.1) fun x17 =>
(bn (fieldAddrO 0 x17) fun x18 =>
(bn (call 56 [x18, (n64 90)] x13.2) fun x19 =>
(Res.elim x19.1 (fun x20 => (some (Sum.inl ((Env.mk (sp [(2, x0.1), (0, x1.1), (0, x2.1), (1, x8.1), (18, x18)] 8) [((D.fn (Fn.func 54) [] [x0.1, x1.1, x2.1]), [])]), x19.2)))) (fun x20 => (Option.map (Sum.inr ) (bn (leavesD dcall (fun (x21 : St) => (Option.map packD (Option.bind (loadO true 3 x0.1 x21) (fun x22 => (mp (Option.bind (loadO false 1 x1.1 x21) (fun x23 => (mp (Option.bind (loadO false 1 x2.1 x21) (fun x24 => (some [x24]))) fun x24 => (@List.cons D x23 x24)))) fun x23 => (@List.cons D x22 x23)))))) [((D.fn (Fn.func 54) [] [x0.1, x1.1, x2.1]), [])] (some x20) x19.2) fun x21 =>
(leaveM M RetK.can A x21.1 x21.2))))))))
(some (Sum.inl ((Env.mk (sp [(2, x0.1), (0, x1.1), (0, x2.1), (1, x8.1), (18, (D.tup []))] 8) [((D.fn (Fn.func 54) [] [x0.1, x1.1, x2.1]), [])]), x13.2)))) fun x17 =>
(Sum.elim (fun (x18 : (Env × St)) => (bn (mp (loadO true 3 (x18.1.g 6) x18.2) fun x19 => (x19, x18.2)) fun x19 =>
(bn (call 11 [x19.1] x19.2) fun x20 =>
(Res.elim x20.1 (fun x21 => (bn (binO .neq 3 true x21 (n64 0)) fun x22 =>
(bn (D.bool? x22) fun x23 =>
(ifb x23 (bn (mp (storeO true 3 (x18.1.g 2) (D.agg [(n64 0), (D.str []), (D.sl Own.full 0 [])]) x20.2) fun x24 => ((D.tup []), x24)) fun x24 =>
(bn (mp (storeO false 1 (x18.1.g 3) (n64 0) x24.2) fun x25 => ((D.tup []), x25)) fun x25 =>
(bn (mp (storeO false 1 (x18.1.g 4) x21 x25.2) fun x26 => ((D.tup []), x26)) fun x26 =>
(bn (leavesD dcall (fun (x27 : St) => (Option.map packD (Option.bind (loadO true 3 (x18.1.g 2) x27) (fun x28 => (mp (Option.bind (loadO false 1 (x18.1.g 3) x27) (fun x29 => (mp (Option.bind (loadO false 1 (x18.1.g 4) x27) (fun x30 => (some [x30]))) fun x30 => (@List.cons D x29 x30)))) fun x29 => (@List.cons D x28 x29)))))) (x18.1).df none x26.2) fun x27 =>
(leaveM M RetK.can A x27.1 x27.2)))))
(bn (mp (loadO true 3 (x18.1.g 6) x20.2) fun x24 => (x24, x20.2)) fun x24 =>
(bn (mp (storeO true 3 (x18.1.g 2) x24.1 x24.2) fun x25 => ((D.tup []), x25)) fun x25 =>
(bn (mp (storeO false 1 (x18.1.g 3) (n64 0) x25.2) fun x26 => ((D.tup []), x26)) fun x26 =>
(bn (mp (storeO false 1 (x18.1.g 4) (n64 0) x26.2) fun x27 => ((D.tup []), x27)) fun x27 =>
(bn (leavesD dcall (fun (x28 : St) => (Option.map packD (Option.bind (loadO true 3 (x18.1.g 2) x28) (fun x29 => (mp (Option.bind (loadO false 1 (x18.1.g 3) x28) (fun x30 => (mp (Option.bind (loadO false 1 (x18.1.g 4) x28) (fun x31 => (some [x31]))) fun x31 => (@List.cons D x30 x31)))) fun x30 => (@List.cons D x29 x30)))))) (x18.1).df none x27.2) fun x28 =>
(leaveM M RetK.can A x28.1 x28.2)))))))))) (fun x21 => (bn (leavesD dcall (fun (x22 : St) => (Option.map packD (Option.bind (loadO true 3 (x18.1.g 2) x22) (fun x23 => (mp (Option.bind (loadO false 1 (x18.1.g 3) x22) (fun x24 => (mp (Option.bind (loadO false 1 (x18.1.g 4) x22) (fun x25 => (some [x25]))) fun x25 => (@List.cons D x24 x25)))) fun x24 => (@List.cons D x23 x24)))))) (x18.1).df (some x21) x20.2) fun x22 =>
(leaveM M RetK.can A x22.1 x22.2))))))) (fun (x18 : (Res × St)) => (some x18)) x17)))))))))))) (fun x7 => (bn (leavesD dcall (fun (x8 : St) => (Option.map packD (Option.bind (loadO true 3 x0.1 x8) (fun x9 => (mp (Option.bind (loadO false 1 x1.1 x8) (fun x10 => (mp (Option.bind (loadO false 1 x2.1 x8) (fun x11 => (some [x11]))) fun x11 => (@List.cons D x10 x11)))) fun x10 => (@List.cons D x9 x10)))))) [((D.fn (Fn.func 54) [] [x0.1, x1.1, x2.1]), [])] (some x7) x6.2) fun x8 =>
(leaveM M RetK.can A x8.1 x8.2)))))))))))
theorem b40 (M : Mode) (call : CallT) (dcall : DcallT) (a0 : D) (A : St) : bodyN M Tryz.prog rxHint kk call dcall 40 [a0] A = f40 M call dcall a0.canon A := by
  kernel_rfl
noncomputable def f41_s0 (M : Mode) (call : CallT) (dcall : DcallT) (A : St) (e : Env) (Av5 : St) : (Option ((Env × St) ⊕ (Res × St))) :=
(bn (binO .lss 3 false (e.g 9) (e.g 8)) fun x0 =>
(bn (D.bool? x0) fun x1 =>
(ifb x1 (bn (indexAddrO 1 false (e.g 7) (e.g 9)) fun x2 =>
(bn (mp (loadO false 1 x2 Av5) fun x3 => (x3, Av5)) fun x3 =>
(bn (mp (Option.map (D.sl Own.full 1) (sliceParts 1 false 0 [(0, x3.1)])) fun x4 => (x4, x3.2)) fun x4 =>
(bn (call 57 [x3.1, x4.1] x4.2) fun x5 =>
(Res.elim x5.1 (fun x6 => (bn (unD UnOp.not x6) fun x7 =>
(bn (D.bool? x7) fun x8 =>
(ifb x8 (Option.map (Sum.inr ) (bn (leavesD dcall (fun (x9 : St) => (some (D.tup [(D.str []), (n64 31)]))) (e).df none x5.2) fun x9 =>
(leaveM M RetK.can A x9.1 x9.2)))
(bn (binO .gtr 3 true (e.g 9) (n64 0)) fun x9 =>
(bn (guardB true x9) fun x10 =>
(bn (ifb x10 (some (e.g 0))
(some (D.tup []))) fun x11 =>
(bn (guardB true x9) fun x12 =>
(bn (ifb x12 (some (e.g 9))
(some (D.tup []))) fun x13 =>
(bn (guardB true x9) fun x14 =>
(bn (ifb x14 (binO .sub 3 true x13 (n64 1))
(some (D.tup []))) fun x15 =>
(bn (guardB true x9) fun x16 =>
(bn (ifb x16 (indexAddrO 1 false x11 x15)
(some (D.tup []))) fun x17 =>
(bn (guardB true x9) fun x18 =>
(bn (ifb x18 (mp (mp (loadO false 1 x17 x5.2) fun x19 => (x19, x5.2)) fun x19 => x19.1)
(some (D.tup []))) fun x19 =>
(bn (guardB true x9) fun x20 =>
(bn (ifb x20 (some x3.1)
(some (D.tup []))) fun x21 =>
(bn (guardB true x9) fun x22 =>
(bn (ifb x22 (binO .add 3 false x19 x21)
(some (D.tup []))) fun x23 =>
(bn (guardB true x9) fun x24 =>
(bn (ifb x24 (some (e.g 0))
(some (D.tup []))) fun x25 =>
(bn (guardB true x9) fun x26 =>
(bn (ifb x26 (some (e.g 9))
(some (D.tup []))) fun x27 =>
(bn (guardB true x9) fun x28 =>
(bn (ifb x28 (binO .sub 3 true x27 (n64 1))
(some (D.tup []))) fun x29 =>
(bn (guardB true x9) fun x30 =>
(bn (ifb x30 (indexAddrO 1 false x25 x29)
(some (D.tup []))) fun x31 =>
(bn (guardB true x9) fun x32 =>
(bn (ifb x32 (mp (mp (loadO false 1 x31 x5.2) fun x33 => (x33, x5.2)) fun x33 => x33.1)
(some (D.tup []))) fun x33 =>
(bn (guardB true x9) fun x34 =>
(bn (ifb x34 (some x3.1)
(some (D.tup []))) fun x35 =>
(bn (guardB true x9) fun x36 =>
(bn (ifb x36 (mp (mp (Option.map (D.sl Own.full 1) (sliceParts 1 false 0 [(0, x33), (1, x35)])) fun x37 => (x37, ([] : St))) fun x37 => x37.1)
(some (D.tup []))) fun x37 =>
(bn (guardB true x9) fun x38 =>
(bn (ifb x38 (call 57 [x23, x37] x5.2)
(some ((Res.ret (D.tup [])), x5.2))) fun x39 =>
(Res.elim x39.1 (fun x40 => (bn (guardB true x9) fun x41 =>
(bn (ifb x41 (unD UnOp.not x40)
(some (D.tup []))) fun x42 =>
(bn (mp (D.bool? x9) fun x43 => (ifb x43 x42
(D.bool false))) fun x43 =>
(@Mode.gs M ((Env × St) ⊕ (Res × St)) True true (bn (D.bool? x43) fun x44 =>
(bn (ifb x44 (bn (mp (Option.map (D.sl Own.full 1) (sliceParts 1 false 0 [(0, (D.int IntKind.u8 (32 : Int)))])) fun x45 => (x45, x39.2)) fun x45 =>
(bn (appendO 1 1 (e.g 4) x45.1 x45.2) fun x46 =>
(some (Sum.inl ((Env.mk (sp [(0, (e.g 0)), (3, x46.1), (1, x3.1), (0, (e.g 7)), (0, (e.g 8)), (0, (e.g 9))] 38) (e).df), x46.2)))))
(some (Sum.inl ((Env.mk (sp [(0, (e.g 0)), (3, (e.g 4)), (1, x3.1), (0, (e.g 7)), (0, (e.g 8)), (0, (e.g 9))] 38) (e).df), x39.2)))) fun x45 =>
(Sum.elim (fun (x46 : (Env × St)) => (bn (appendO 1 1 (x46.1.g 4) (x46.1.g 6) x46.2) fun x47 =>
(bn (binO .add 3 true (x46.1.g 9) (n64 1)) fun x48 =>
(some (Sum.inl ((Env.mk (sp [(0, (x46.1.g 0)), (3, x47.1), (2, (x46.1.g 7)), (0, (x46.1.g 8)), (0, x48)] 38) (x46.1).df), x47.2)))))) (fun (x46 : ((Env × St) ⊕ (Res × St))) => (some x46)) x45)))))))) (fun x40 => (@Mode.gs M ((Env × St) ⊕ (Res × St)) True true (Option.map (Sum.inr ) (bn (leavesD dcall (fun (x41 : St) => (some (D.tup [(e.g 2), (e.g 3)]))) (e).df (some x40) x39.2) fun x41 =>
(leaveM M RetK.can A x41.1 x41.2))))))))))))))))))))))))))))))))))))))))) (fun x6 => (Option.map (Sum.inr ) (bn (leavesD dcall (fun (x7 : St) => (some (D.tup [(e.g 2), (e.g 3)]))) (e).df (some x6) x5.2) fun x7 =>
(leaveM M RetK.can A x7.1 x7.2)))))))))
(Option.map (Sum.inr ) (bn (convO ConvK.bytesStr (e.g 4)) fun x2 =>
(bn (leavesD dcall (fun (x3 : St) => (some (D.tup [x2, (n64 0)]))) (e).df none Av5) fun x3 =>
(leaveM M RetK.can A x3.1 x3.2)))))))
noncomputable def f41 (M : Mode) (call : CallT) (dcall : DcallT) (a0 : D) (A : St) : (Option (Res × St)) :=
(bn (lenSlO a0) fun x0 =>
(@Mode.it M (Res × St) (f41_s0 M call dcall A) (Env.mk (sp [(0, a0), (3, (D.sl Own.full 0 [])), (2, a0), (0, x0), (0, (n64 0))] 38) []) A))
theorem b41 (M : Mode) (call : CallT) (dcall : DcallT) (a0 : D) (A : St) : bodyN M Tryz.prog rxHint kk call dcall 41 [a0] A = f41 M call dcall a0.canon A := by
  kernel_rfl
end Go.Vm.Rx
