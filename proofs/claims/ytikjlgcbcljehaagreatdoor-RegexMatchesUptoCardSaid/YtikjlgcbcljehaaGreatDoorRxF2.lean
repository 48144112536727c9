/- Written by a program: what the abstract run of each function comes to, one definition a function, and its equation. -/
import Derived.Test.YtikjlgcbcljehaaGreatDoorRxH
import Derived.KernelRfl
set_option linter.all false
namespace Go.Vm.Rx
open Go.Proofs
set_option maxRecDepth 100000
set_option linter.unusedVariables false
set_option maxHeartbeats 0
noncomputable def f42_s0 (M : Mode) (call : CallT) (dcall : DcallT) (A : St) (e : Env) (Av5 : St) : (Option ((Env × St) ⊕ (Res × St))) :=
(bn (binO .lss 3 false (e.g 41) (e.g 40)) fun x0 =>
(bn (D.bool? x0) fun x1 =>
(ifb x1 (bn (indexAddrO 3 true (e.g 39) (e.g 41)) fun x2 =>
(bn (mp (loadO true 3 x2 Av5) fun x3 => (x3, Av5)) fun x3 =>
(bn (allocO [(n64 0), (D.str []), (D.sl Own.full 0 [])] x3.2) fun x4 =>
(bn (mp (storeO true 3 x4.1 x3.1 x4.2) fun x5 => ((D.tup []), x5)) fun x5 =>
(bn (binO .gtr 3 true (e.g 41) (n64 0)) fun x6 =>
(bn (D.bool? x6) fun x7 =>
(bn (ifb x7 (bn (mp (Option.map (D.sl Own.full 1) (sliceParts 1 false 0 [(0, (D.str [(124 : UInt8)]))])) fun x8 => (x8, x5.2)) fun x8 =>
(bn (appendO 1 16 (e.g 5) x8.1 x8.2) fun x9 =>
(some (Sum.inl ((Env.mk (sp [(5, x9.1), (1, x4.1), (31, (e.g 39)), (0, (e.g 40)), (0, (e.g 41))] 49) (e).df), x9.2)))))
(some (Sum.inl ((Env.mk (sp [(5, (e.g 5)), (1, x4.1), (31, (e.g 39)), (0, (e.g 40)), (0, (e.g 41))] 49) (e).df), x5.2)))) fun x8 =>
(Sum.elim (fun (x9 : (Env × St)) => (bn (mp (loadO true 3 (x9.1.g 7) x9.2) fun x10 => (x10, x9.2)) fun x10 =>
(bn (call 42 [x10.1, (n64 2)] x10.2) fun x11 =>
(Res.elim x11.1 (fun x12 => (bn (appendO 1 16 (x9.1.g 5) x12 x11.2) fun x13 =>
(bn (binO .add 3 true (x9.1.g 41) (n64 1)) fun x14 =>
(some (Sum.inl ((Env.mk (sp [(5, x13.1), (33, (x9.1.g 39)), (0, (x9.1.g 40)), (0, x14)] 49) (x9.1).df), x13.2)))))) (fun x12 => (Option.map (Sum.inr ) (bn (leavesD dcall (fun (x13 : St) => (some (x9.1.g 4))) (x9.1).df (some x12) x11.2) fun x13 =>
(leaveM M RetK.own A x13.1 x13.2)))))))) (fun (x9 : ((Env × St) ⊕ (Res × St))) => (some x9)) x8))))))))
(Option.map (Sum.inr ) (bn (leavesD dcall (fun (x2 : St) => (some (e.g 5))) (e).df none Av5) fun x2 =>
(leaveM M RetK.own A x2.1 x2.2))))))
noncomputable def f42_s1 (M : Mode) (call : CallT) (dcall : DcallT) (A : St) (e : Env) (Av5 : St) : (Option ((Env × St) ⊕ (Res × St))) :=
(bn (binO .lss 3 false (e.g 67) (e.g 66)) fun x0 =>
(bn (D.bool? x0) fun x1 =>
(ifb x1 (bn (indexAddrO 3 true (e.g 65) (e.g 67)) fun x2 =>
(bn (mp (loadO true 3 x2 Av5) fun x3 => (x3, Av5)) fun x3 =>
(bn (allocO [(n64 0), (D.str []), (D.sl Own.full 0 [])] x3.2) fun x4 =>
(bn (mp (storeO true 3 x4.1 x3.1 x4.2) fun x5 => ((D.tup []), x5)) fun x5 =>
(bn (mp (loadO true 3 x4.1 x5.2) fun x6 => (x6, x5.2)) fun x6 =>
(bn (call 42 [x6.1, (n64 2)] x6.2) fun x7 =>
(Res.elim x7.1 (fun x8 => (bn (appendO 1 16 (e.g 5) x8 x7.2) fun x9 =>
(bn (binO .add 3 true (e.g 67) (n64 1)) fun x10 =>
(some (Sum.inl ((Env.mk (sp [(5, x9.1), (59, (e.g 65)), (0, (e.g 66)), (0, x10)] 23) (e).df), x9.2)))))) (fun x8 => (Option.map (Sum.inr ) (bn (leavesD dcall (fun (x9 : St) => (some (e.g 4))) (e).df (some x8) x7.2) fun x9 =>
(leaveM M RetK.own A x9.1 x9.2)))))))))))
(Option.map (Sum.inr ) (bn (leavesD dcall (fun (x2 : St) => (some (e.g 5))) (e).df none Av5) fun x2 =>
(leaveM M RetK.own A x2.1 x2.2))))))
noncomputable def f42 (M : Mode) (call : CallT) (dcall : DcallT) (a0 : D) (a1 : D) (A : St) : (Option (Res × St)) :=
(bn (boxO true a0 A) fun x0 =>
(bn (mp (loadO true 3 x0.1 x0.2) fun x1 => (x1, x0.2)) fun x1 =>
(bn (call 58 [x1.1] x1.2) fun x2 =>
(Res.elim x2.1 (fun x3 => (bn (binO .lss 3 false x3 a1) fun x4 =>
(bn (D.bool? x4) fun x5 =>
(ifb x5 (bn (mp (Option.map (D.sl Own.full 1) (sliceParts 1 false 0 [(0, (D.str [(40 : UInt8)]))])) fun x6 => (x6, x2.2)) fun x6 =>
(bn (mp (loadO true 3 x0.1 x6.2) fun x7 => (x7, x6.2)) fun x7 =>
(bn (call 42 [x7.1, (n64 1)] x7.2) fun x8 =>
(Res.elim x8.1 (fun x9 => (bn (mp (Option.map (D.sl Own.full 1) (sliceParts 1 false 0 [(0, (D.str [(41 : UInt8)]))])) fun x10 => (x10, x8.2)) fun x10 =>
(bn (mp (Option.map (D.sl Own.full 1) (sliceParts 1 false 0 [(0, x6.1), (1, x9), (2, x10.1)])) fun x11 => (x11, x10.2)) fun x11 =>
(bn (call 59 [x11.1] x11.2) fun x12 =>
(Res.elim x12.1 (fun x13 => (leaveM M RetK.own A (Res.ret x13) x12.2)) (fun x13 => (leaveM M RetK.own A (Res.pan x13) x12.2))))))) (fun x9 => (leaveM M RetK.own A (Res.pan x9) x8.2))))))
(bn (fieldAddrO 0 x0.1) fun x6 =>
(bn (mp (loadO false 1 x6 x2.2) fun x7 => (x7, x2.2)) fun x7 =>
(bn (binO .eql 3 true x7.1 (n64 1)) fun x8 =>
(bn (D.bool? x8) fun x9 =>
(ifb x9 (bn (fieldAddrO 1 x0.1) fun x10 =>
(bn (mp (loadO false 1 x10 x7.2) fun x11 => (x11, x7.2)) fun x11 =>
(bn (mp (Option.map (D.sl Own.full 1) (sliceParts 1 false 0 [(0, x11.1)])) fun x12 => (x12, x11.2)) fun x12 =>
(leaveM M RetK.own A (Res.ret x12.1) x12.2))))
(bn (binO .eql 3 true x7.1 (n64 2)) fun x10 =>
(bn (D.bool? x10) fun x11 =>
(ifb x11 (bn (fieldAddrO 1 x0.1) fun x12 =>
(bn (mp (loadO false 1 x12 x7.2) fun x13 => (x13, x7.2)) fun x13 =>
(bn (mp (Option.map (D.sl Own.full 1) (sliceParts 1 false 0 [(0, (D.str [(36 : UInt8)])), (1, x13.1)])) fun x14 => (x14, x13.2)) fun x14 =>
(leaveM M RetK.own A (Res.ret x14.1) x14.2))))
(bn (binO .eql 3 true x7.1 (n64 3)) fun x12 =>
(bn (D.bool? x12) fun x13 =>
(ifb x13 (bn (mp (Option.map (D.sl Own.full 1) (sliceParts 1 false 0 [(0, (D.str [(46 : UInt8)]))])) fun x14 => (x14, x7.2)) fun x14 =>
(leaveM M RetK.own A (Res.ret x14.1) x14.2))
(bn (binO .eql 3 true x7.1 (n64 5)) fun x14 =>
(bn (D.bool? x14) fun x15 =>
(ifb x15 (bn (fieldAddrO 2 x0.1) fun x16 =>
(bn (mp (loadO false 1 x16 x7.2) fun x17 => (x17, x7.2)) fun x17 =>
(bn (lenSlO x17.1) fun x18 =>
(@Mode.it M (Res × St) (f42_s0 M call dcall A) (Env.mk (sp [(5, (D.sl Own.full 0 [])), (33, x17.1), (0, x18), (0, (n64 0))] 49) []) x17.2))))
(bn (binO .eql 3 true x7.1 (n64 4)) fun x16 =>
(bn (D.bool? x16) fun x17 =>
(ifb x17 (bn (fieldAddrO 2 x0.1) fun x18 =>
(bn (mp (loadO false 1 x18 x7.2) fun x19 => (x19, x7.2)) fun x19 =>
(bn (lenSlO x19.1) fun x20 =>
(bn (binO .eql 3 true x20 (n64 0)) fun x21 =>
(bn (D.bool? x21) fun x22 =>
(ifb x22 (bn (mp (Option.map (D.sl Own.full 1) (sliceParts 1 false 0 [(0, (D.str [(40 : UInt8)])), (1, (D.str [(41 : UInt8)]))])) fun x23 => (x23, x19.2)) fun x23 =>
(leaveM M RetK.own A (Res.ret x23.1) x23.2))
(bn (fieldAddrO 2 x0.1) fun x23 =>
(bn (mp (loadO false 1 x23 x19.2) fun x24 => (x24, x19.2)) fun x24 =>
(bn (lenSlO x24.1) fun x25 =>
(@Mode.it M (Res × St) (f42_s1 M call dcall A) (Env.mk (sp [(5, (D.sl Own.full 0 [])), (59, x24.1), (0, x25), (0, (n64 0))] 23) []) x24.2))))))))))
(bn (fieldAddrO 0 x0.1) fun x18 =>
(bn (mp (loadO false 1 x18 x7.2) fun x19 => (x19, x7.2)) fun x19 =>
(bn (binO .eql 3 true x19.1 (n64 7)) fun x20 =>
(bn (D.bool? x20) fun x21 =>
(bn (ifb x21 (some (Sum.inl ((Env.mk (sp [(2, x0.1), (7, (D.str [(43 : UInt8)]))] 80) []), x19.2)))
(bn (binO .eql 3 true x19.1 (n64 8)) fun x22 =>
(bn (D.bool? x22) fun x23 =>
(bn (ifb x23 (some (Sum.inl ((Env.mk (sp [(2, x0.1), (7, (D.str [(63 : UInt8)]))] 80) []), x19.2)))
(some (Sum.inl ((Env.mk (sp [(2, x0.1), (7, (D.str [(42 : UInt8)]))] 80) []), x19.2)))) fun x24 =>
(Sum.elim (fun (x25 : (Env × St)) => (some (Sum.inl ((Env.mk (sp [(2, (x25.1.g 2)), (7, (x25.1.g 10))] 80) (x25.1).df), x25.2)))) (fun (x25 : ((Env × St) ⊕ (Res × St))) => (some x25)) x24))))) fun x22 =>
(Sum.elim (fun (x23 : (Env × St)) => (bn (fieldAddrO 2 (x23.1.g 2)) fun x24 =>
(bn (mp (loadO false 1 x24 x23.2) fun x25 => (x25, x23.2)) fun x25 =>
(bn (indexAddrO 3 true x25.1 (n64 0)) fun x26 =>
(bn (mp (loadO true 3 x26 x25.2) fun x27 => (x27, x25.2)) fun x27 =>
(bn (call 42 [x27.1, (n64 3)] x27.2) fun x28 =>
(Res.elim x28.1 (fun x29 => (bn (mp (Option.map (D.sl Own.full 1) (sliceParts 1 false 0 [(0, (x23.1.g 10))])) fun x30 => (x30, x28.2)) fun x30 =>
(bn (appendO 1 16 x29 x30.1 x30.2) fun x31 =>
(bn (leavesD dcall (fun (x32 : St) => (some x31.1)) (x23.1).df none x31.2) fun x32 =>
(leaveM M RetK.own A x32.1 x32.2))))) (fun x29 => (bn (leavesD dcall (fun (x30 : St) => (some (x23.1.g 4))) (x23.1).df (some x29) x28.2) fun x30 =>
(leaveM M RetK.own A x30.1 x30.2)))))))))) (fun (x23 : (Res × St)) => (some x23)) x22))))))))))))))))))))))))))) (fun x3 => (leaveM M RetK.own A (Res.pan x3) x2.2))))))
theorem b42 (M : Mode) (call : CallT) (dcall : DcallT) (a0 a1 : D) (A : St) : bodyN M Tryz.prog rxHint kk call dcall 42 [a0, a1] A = f42 M call dcall a0.canon a1.canon A := by
  kernel_rfl
noncomputable def f43_s0 (M : Mode) (call : CallT) (dcall : DcallT) (A : St) (e : Env) (Av5 : St) : (Option ((Env × St) ⊕ (Res × St))) :=
(bn (binO .lss 3 false (e.g 23) (e.g 22)) fun x0 =>
(bn (D.bool? x0) fun x1 =>
(ifb x1 (bn (indexStrO (e.g 0) (e.g 23)) fun x2 =>
(bn (call 61 [x2] Av5) fun x3 =>
(Res.elim x3.1 (fun x4 => (bn (unD UnOp.not x4) fun x5 =>
(bn (D.bool? x5) fun x6 =>
(ifb x6 (Option.map (Sum.inr ) (bn (leavesD dcall (fun (x7 : St) => (some (D.bool false))) (e).df none x3.2) fun x7 =>
(leaveM M RetK.can A x7.1 x7.2)))
(bn (binO .add 3 true (e.g 23) (n64 1)) fun x7 =>
(@Mode.gk M ((Env × St) ⊕ (Res × St)) Av5 x3.2 (some (Sum.inl ((Env.mk (sp [(0, (D.shut (List.length Av5) (e.g 0))), (21, (D.shut (List.length Av5) (e.g 22))), (0, (D.shut (List.length Av5) x7))] 8) (List.map (fun (x8 : (D × (List D))) => ((D.shut (List.length Av5) x8.1), (D.shutL (List.length Av5) x8.2))) (e).df)), (List.take (List.length Av5) x3.2)))))))))) (fun x4 => (Option.map (Sum.inr ) (bn (leavesD dcall (fun (x5 : St) => (some (e.g 2))) (e).df (some x4) x3.2) fun x5 =>
(leaveM M RetK.can A x5.1 x5.2)))))))
(Option.map (Sum.inr ) (bn (leavesD dcall (fun (x2 : St) => (some (D.bool true))) (e).df none Av5) fun x2 =>
(leaveM M RetK.can A x2.1 x2.2))))))
noncomputable def f43 (M : Mode) (call : CallT) (dcall : DcallT) (a0 : D) (A : St) : (Option (Res × St)) :=
(bn (binO .eql 3 true a0 (D.str [])) fun x0 =>
(bn (guardB false x0) fun x1 =>
(bn (ifb x1 (some a0)
(some (D.tup []))) fun x2 =>
(bn (guardB false x0) fun x3 =>
(bn (ifb x3 (lenStrO x2)
(some (D.tup []))) fun x4 =>
(bn (guardB false x0) fun x5 =>
(bn (ifb x5 (binO .gtr 3 true x4 (n64 64))
(some (D.tup []))) fun x6 =>
(bn (mp (D.bool? x0) fun x7 => (ifb x7 (D.bool true)
 x6)) fun x7 =>
(bn (guardB false x7) fun x8 =>
(bn (ifb x8 (some a0)
(some (D.tup []))) fun x9 =>
(bn (guardB false x7) fun x10 =>
(bn (ifb x10 (indexStrO x9 (n64 0))
(some (D.tup []))) fun x11 =>
(bn (guardB false x7) fun x12 =>
(bn (ifb x12 (call 60 [x11] A)
(some ((Res.ret (D.tup [])), A))) fun x13 =>
(Res.elim x13.1 (fun x14 => (bn (mp (D.bool? x7) fun x15 => (ifb x15 (D.bool true)
 x14)) fun x15 =>
(bn (guardB false x15) fun x16 =>
(bn (ifb x16 (some a0)
(some (D.tup []))) fun x17 =>
(bn (guardB false x15) fun x18 =>
(bn (ifb x18 (indexStrO x17 (n64 0))
(some (D.tup []))) fun x19 =>
(bn (guardB false x15) fun x20 =>
(bn (ifb x20 (binO .eql 3 true x19 (D.int IntKind.u8 (45 : Int)))
(some (D.tup []))) fun x21 =>
(bn (mp (D.bool? x15) fun x22 => (ifb x22 (D.bool true)
 x21)) fun x22 =>
(bn (D.bool? x22) fun x23 =>
(ifb x23 (leaveM M RetK.can A (Res.ret (D.bool false)) x13.2)
(bn (lenStrO a0) fun x24 =>
(@Mode.it M (Res × St) (f43_s0 M call dcall A) (Env.mk (sp [(0, a0), (21, x24), (0, (n64 0))] 8) []) x13.2))))))))))))) (fun x14 => (leaveM M RetK.can A (Res.pan x14) x13.2)))))))))))))))))
theorem b43 (M : Mode) (call : CallT) (dcall : DcallT) (a0 : D) (A : St) : bodyN M Tryz.prog rxHint kk call dcall 43 [a0] A = f43 M call dcall a0.canon A := by
  kernel_rfl
theorem r43 (a0 : D) (A : St) : Run Tryz.prog rxA 43 [a0] A = f43 mL (Run Tryz.prog rxA) (Dcall Tryz.prog rxA) a0.canon A := (Run_eqN Tryz.prog rxA kk rfl rfl _ _).trans (b43 mL (Run Tryz.prog rxA) (Dcall Tryz.prog rxA) a0 A)
noncomputable def f44 (M : Mode) (call : CallT) (dcall : DcallT) (a0 : D) (a1 : D) (A : St) : (Option (Res × St)) :=
(bn (call 62 [a0, a1] A) fun x0 =>
(Res.elim x0.1 (fun x1 => (bn (binO .geq 3 true x1 (n64 0)) fun x2 =>
(leaveM M RetK.can A (Res.ret x2) x0.2))) (fun x1 => (leaveM M RetK.can A (Res.pan x1) x0.2))))
theorem b44 (M : Mode) (call : CallT) (dcall : DcallT) (a0 a1 : D) (A : St) : bodyN M Tryz.prog rxHint kk call dcall 44 [a0, a1] A = f44 M call dcall a0.canon a1.canon A := by
  kernel_rfl
theorem r44 (a0 a1 : D) (A : St) : Run Tryz.prog rxA 44 [a0, a1] A = f44 mL (Run Tryz.prog rxA) (Dcall Tryz.prog rxA) a0.canon a1.canon A := (Run_eqN Tryz.prog rxA kk rfl rfl _ _).trans (b44 mL (Run Tryz.prog rxA) (Dcall Tryz.prog rxA) a0 a1 A)
noncomputable def f45 (M : Mode) (call : CallT) (dcall : DcallT) (a0 : D) (a1 : D) (A : St) : (Option (Res × St)) :=
(bn (boxO true a0 A) fun x0 =>
(bn (fieldAddrO 0 a1) fun x1 =>
(bn (mp (loadO false 1 x1 x0.2) fun x2 => (x2, x0.2)) fun x2 =>
(bn (binO .eql 3 true x2.1 (n64 4)) fun x3 =>
(bn (guardB false x3) fun x4 =>
(bn (ifb x4 (fieldAddrO 0 a1)
(some (D.tup []))) fun x5 =>
(bn (guardB false x3) fun x6 =>
(bn (ifb x6 (mp (loadO false 1 x5 x2.2) fun x7 => (x7, x2.2))
(some ((D.tup []), x2.2))) fun x7 =>
(bn (guardB false x3) fun x8 =>
(bn (ifb x8 (binO .eql 3 true x7.1 (n64 5))
(some (D.tup []))) fun x9 =>
(bn (mp (D.bool? x3) fun x10 => (ifb x10 (D.bool true)
 x9)) fun x10 =>
(bn (guardB true x10) fun x11 =>
(bn (ifb x11 (fieldAddrO 0 x0.1)
(some (D.tup []))) fun x12 =>
(bn (guardB true x10) fun x13 =>
(bn (ifb x13 (mp (loadO false 1 x12 x7.2) fun x14 => (x14, x7.2))
(some ((D.tup []), x7.2))) fun x14 =>
(bn (guardB true x10) fun x15 =>
(bn (ifb x15 (fieldAddrO 0 a1)
(some (D.tup []))) fun x16 =>
(bn (guardB true x10) fun x17 =>
(bn (ifb x17 (mp (loadO false 1 x16 x14.2) fun x18 => (x18, x14.2))
(some ((D.tup []), x14.2))) fun x18 =>
(bn (guardB true x10) fun x19 =>
(bn (ifb x19 (binO .eql 3 false x14.1 x18.1)
(some (D.tup []))) fun x20 =>
(bn (mp (D.bool? x10) fun x21 => (ifb x21 x20
(D.bool false))) fun x21 =>
(bn (guardB false x21) fun x22 =>
(bn (ifb x22 (mp (loadO true 3 x0.1 x18.2) fun x23 => (x23, x18.2))
(some ((D.tup []), x18.2))) fun x23 =>
(bn (guardB false x21) fun x24 =>
(bn (ifb x24 (call 21 [x23.1] x23.2)
(some ((Res.ret (D.tup [])), x23.2))) fun x25 =>
(Res.elim x25.1 (fun x26 => (bn (guardB false x21) fun x27 =>
(bn (ifb x27 (unD UnOp.not x26)
(some (D.tup []))) fun x28 =>
(bn (mp (D.bool? x21) fun x29 => (ifb x29 (D.bool true)
 x28)) fun x29 =>
(leaveM M RetK.can A (Res.ret x29) x25.2))))) (fun x26 => (leaveM M RetK.can A (Res.pan x26) x25.2)))))))))))))))))))))))))))))
theorem b45 (M : Mode) (call : CallT) (dcall : DcallT) (a0 a1 : D) (A : St) : bodyN M Tryz.prog rxHint kk call dcall 45 [a0, a1] A = f45 M call dcall a0.canon a1.canon A := by
  kernel_rfl
theorem r45 (a0 a1 : D) (A : St) : Run Tryz.prog rxA 45 [a0, a1] A = f45 mL (Run Tryz.prog rxA) (Dcall Tryz.prog rxA) a0.canon a1.canon A := (Run_eqN Tryz.prog rxA kk rfl rfl _ _).trans (b45 mL (Run Tryz.prog rxA) (Dcall Tryz.prog rxA) a0 a1 A)
noncomputable def f46_s0 (M : Mode) (call : CallT) (dcall : DcallT) (A : St) (e : Env) (Av5 : St) : (Option ((Env × St) ⊕ (Res × St))) :=
(bn (binO .lss 3 false (e.g 8) (e.g 7)) fun x0 =>
(bn (D.bool? x0) fun x1 =>
(ifb x1 (bn (indexAddrO 1 false (e.g 0) (e.g 8)) fun x2 =>
(bn (mp (loadO false 1 x2 Av5) fun x3 => (x3, Av5)) fun x3 =>
(bn (binO .eql 3 false (e.g 1) x3.1) fun x4 =>
(bn (D.bool? x4) fun x5 =>
(ifb x5 (Option.map (Sum.inr ) (bn (leavesD dcall (fun (x6 : St) => (some (e.g 8))) (e).df none x3.2) fun x6 =>
(leaveM M RetK.can A x6.1 x6.2)))
(bn (binO .add 3 true (e.g 8) (n64 1)) fun x6 =>
(@Mode.gk M ((Env × St) ⊕ (Res × St)) Av5 x3.2 (some (Sum.inl ((Env.mk (sp [(0, (D.shut (List.length Av5) (e.g 0))), (0, (D.shut (List.length Av5) (e.g 1))), (5, (D.shut (List.length Av5) (e.g 7))), (0, (D.shut (List.length Av5) x6))] 10) (List.map (fun (x7 : (D × (List D))) => ((D.shut (List.length Av5) x7.1), (D.shutL (List.length Av5) x7.2))) (e).df)), (List.take (List.length Av5) x3.2)))))))))))
(Option.map (Sum.inr ) (bn (leavesD dcall (fun (x2 : St) => (some (n64 (-1)))) (e).df none Av5) fun x2 =>
(leaveM M RetK.can A x2.1 x2.2))))))
noncomputable def f46 (M : Mode) (call : CallT) (dcall : DcallT) (a0 : D) (a1 : D) (A : St) : (Option (Res × St)) :=
(bn (lenSlO a0) fun x0 =>
(@Mode.it M (Res × St) (f46_s0 M call dcall A) (Env.mk (sp [(0, a0), (0, a1), (5, x0), (0, (n64 0))] 10) []) A))
theorem b46 (M : Mode) (call : CallT) (dcall : DcallT) (a0 a1 : D) (A : St) : bodyN M Tryz.prog rxHint kk call dcall 46 [a0, a1] A = f46 M call dcall a0.canon a1.canon A := by
  kernel_rfl
theorem r46 (a0 a1 : D) (A : St) : Run Tryz.prog rxA 46 [a0, a1] A = f46 mL (Run Tryz.prog rxA) (Dcall Tryz.prog rxA) a0.canon a1.canon A := (Run_eqN Tryz.prog rxA kk rfl rfl _ _).trans (b46 mL (Run Tryz.prog rxA) (Dcall Tryz.prog rxA) a0 a1 A)
noncomputable def f47 (M : Mode) (call : CallT) (dcall : DcallT) (a0 : D) (A : St) : (Option (Res × St)) :=
(bn (boxO true a0 A) fun x0 =>
(bn (fieldAddrO 2 x0.1) fun x1 =>
(bn (mp (loadO false 1 x1 x0.2) fun x2 => (x2, x0.2)) fun x2 =>
(bn (lenSlO x2.1) fun x3 =>
(bn (fieldAddrO 0 x0.1) fun x4 =>
(bn (mp (loadO false 1 x4 x2.2) fun x5 => (x5, x2.2)) fun x5 =>
(bn (binO .eql 3 true x5.1 (n64 1)) fun x6 =>
(bn (D.bool? x6) fun x7 =>
(bn (ifb x7 (some (Sum.inl ((Env.mk (sp [(1, x0.1), (1, x3), (4, x5.1), (0, (D.bool true))] 57) []), x5.2)))
(bn (binO .eql 3 true x5.1 (n64 2)) fun x8 =>
(some (Sum.inl ((Env.mk (sp [(1, x0.1), (1, x3), (4, x5.1), (0, x8)] 57) []), x5.2))))) fun x8 =>
(Sum.elim (fun (x9 : (Env × St)) => (bn (D.bool? (x9.1.g 9)) fun x10 =>
(ifb x10 (bn (fieldAddrO 1 (x9.1.g 1)) fun x11 =>
(bn (mp (loadO false 1 x11 x9.2) fun x12 => (x12, x9.2)) fun x12 =>
(bn (call 63 [x12.1] x12.2) fun x13 =>
(Res.elim x13.1 (fun x14 => (bn (guardB true x14) fun x15 =>
(bn (ifb x15 (some (x9.1.g 3))
(some (D.tup []))) fun x16 =>
(bn (guardB true x14) fun x17 =>
(bn (ifb x17 (binO .eql 3 true x16 (n64 0))
(some (D.tup []))) fun x18 =>
(bn (mp (D.bool? x14) fun x19 => (ifb x19 x18
(D.bool false))) fun x19 =>
(bn (leavesD dcall (fun (x20 : St) => (some x19)) (x9.1).df none x13.2) fun x20 =>
(leaveM M RetK.can A x20.1 x20.2)))))))) (fun x14 => (bn (leavesD dcall (fun (x15 : St) => (some (x9.1.g 2))) (x9.1).df (some x14) x13.2) fun x15 =>
(leaveM M RetK.can A x15.1 x15.2)))))))
(bn (binO .eql 3 true (x9.1.g 8) (n64 3)) fun x11 =>
(bn (D.bool? x11) fun x12 =>
(ifb x12 (bn (fieldAddrO 1 (x9.1.g 1)) fun x13 =>
(bn (mp (loadO false 1 x13 x9.2) fun x14 => (x14, x9.2)) fun x14 =>
(bn (binO .eql 3 true x14.1 (D.str [])) fun x15 =>
(bn (guardB true x15) fun x16 =>
(bn (ifb x16 (some (x9.1.g 3))
(some (D.tup []))) fun x17 =>
(bn (guardB true x15) fun x18 =>
(bn (ifb x18 (binO .eql 3 true x17 (n64 0))
(some (D.tup []))) fun x19 =>
(bn (mp (D.bool? x15) fun x20 => (ifb x20 x19
(D.bool false))) fun x20 =>
(bn (leavesD dcall (fun (x21 : St) => (some x20)) (x9.1).df none x14.2) fun x21 =>
(leaveM M RetK.can A x21.1 x21.2))))))))))
(bn (binO .eql 3 true (x9.1.g 8) (n64 4)) fun x13 =>
(bn (D.bool? x13) fun x14 =>
(ifb x14 (bn (fieldAddrO 1 (x9.1.g 1)) fun x15 =>
(bn (mp (loadO false 1 x15 x9.2) fun x16 => (x16, x9.2)) fun x16 =>
(bn (binO .eql 3 true x16.1 (D.str [])) fun x17 =>
(bn (guardB true x17) fun x18 =>
(bn (ifb x18 (some (x9.1.g 3))
(some (D.tup []))) fun x19 =>
(bn (guardB true x17) fun x20 =>
(bn (ifb x20 (binO .neq 3 true x19 (n64 1))
(some (D.tup []))) fun x21 =>
(bn (mp (D.bool? x17) fun x22 => (ifb x22 x21
(D.bool false))) fun x22 =>
(bn (guardB true x22) fun x23 =>
(bn (ifb x23 (fieldAddrO 2 (x9.1.g 1))
(some (D.tup []))) fun x24 =>
(bn (guardB true x22) fun x25 =>
(bn (ifb x25 (mp (loadO false 1 x24 x16.2) fun x26 => (x26, x16.2))
(some ((D.tup []), x16.2))) fun x26 =>
(bn (guardB true x22) fun x27 =>
(bn (ifb x27 (call 64 [x26.1, (n64 4)] x26.2)
(some ((Res.ret (D.tup [])), x26.2))) fun x28 =>
(Res.elim x28.1 (fun x29 => (bn (mp (D.bool? x22) fun x30 => (ifb x30 x29
(D.bool false))) fun x30 =>
(bn (leavesD dcall (fun (x31 : St) => (some x30)) (x9.1).df none x28.2) fun x31 =>
(leaveM M RetK.can A x31.1 x31.2)))) (fun x29 => (bn (leavesD dcall (fun (x30 : St) => (some (x9.1.g 2))) (x9.1).df (some x29) x28.2) fun x30 =>
(leaveM M RetK.can A x30.1 x30.2))))))))))))))))))
(bn (binO .eql 3 true (x9.1.g 8) (n64 5)) fun x15 =>
(bn (D.bool? x15) fun x16 =>
(ifb x16 (bn (fieldAddrO 1 (x9.1.g 1)) fun x17 =>
(bn (mp (loadO false 1 x17 x9.2) fun x18 => (x18, x9.2)) fun x18 =>
(bn (binO .eql 3 true x18.1 (D.str [])) fun x19 =>
(bn (guardB true x19) fun x20 =>
(bn (ifb x20 (some (x9.1.g 3))
(some (D.tup []))) fun x21 =>
(bn (guardB true x19) fun x22 =>
(bn (ifb x22 (binO .geq 3 true x21 (n64 2))
(some (D.tup []))) fun x23 =>
(bn (mp (D.bool? x19) fun x24 => (ifb x24 x23
(D.bool false))) fun x24 =>
(bn (guardB true x24) fun x25 =>
(bn (ifb x25 (fieldAddrO 2 (x9.1.g 1))
(some (D.tup []))) fun x26 =>
(bn (guardB true x24) fun x27 =>
(bn (ifb x27 (mp (loadO false 1 x26 x18.2) fun x28 => (x28, x18.2))
(some ((D.tup []), x18.2))) fun x28 =>
(bn (guardB true x24) fun x29 =>
(bn (ifb x29 (call 64 [x28.1, (n64 5)] x28.2)
(some ((Res.ret (D.tup [])), x28.2))) fun x30 =>
(Res.elim x30.1 (fun x31 => (bn (mp (D.bool? x24) fun x32 => (ifb x32 x31
(D.bool false))) fun x32 =>
(bn (leavesD dcall (fun (x33 : St) => (some x32)) (x9.1).df none x30.2) fun x33 =>
(leaveM M RetK.can A x33.1 x33.2)))) (fun x31 => (bn (leavesD dcall (fun (x32 : St) => (some (x9.1.g 2))) (x9.1).df (some x31) x30.2) fun x32 =>
(leaveM M RetK.can A x32.1 x32.2))))))))))))))))))
(bn (binO .eql 3 true (x9.1.g 8) (n64 6)) fun x17 =>
(bn (D.bool? x17) fun x18 =>
(bn (ifb x18 (some (Sum.inl ((Env.mk (sp [(1, (x9.1.g 1)), (1, (x9.1.g 3)), (52, (D.bool true))] 10) (x9.1).df), x9.2)))
(bn (binO .eql 3 true (x9.1.g 8) (n64 7)) fun x19 =>
(bn (D.bool? x19) fun x20 =>
(bn (ifb x20 (some (Sum.inl ((Env.mk (sp [(1, (x9.1.g 1)), (1, (x9.1.g 3)), (52, (D.bool true))] 10) (x9.1).df), x9.2)))
(bn (binO .eql 3 true (x9.1.g 8) (n64 8)) fun x21 =>
(some (Sum.inl ((Env.mk (sp [(1, (x9.1.g 1)), (1, (x9.1.g 3)), (52, x21)] 10) (x9.1).df), x9.2))))) fun x21 =>
(Sum.elim (fun (x22 : (Env × St)) => (some (Sum.inl ((Env.mk (sp [(1, (x22.1.g 1)), (1, (x22.1.g 3)), (52, (x22.1.g 56))] 10) (x22.1).df), x22.2)))) (fun (x22 : ((Env × St) ⊕ (Res × St))) => (some x22)) x21))))) fun x19 =>
(Sum.elim (fun (x20 : (Env × St)) => (bn (D.bool? (x20.1.g 56)) fun x21 =>
(ifb x21 (bn (fieldAddrO 1 (x20.1.g 1)) fun x22 =>
(bn (mp (loadO false 1 x22 x20.2) fun x23 => (x23, x20.2)) fun x23 =>
(bn (binO .eql 3 true x23.1 (D.str [])) fun x24 =>
(bn (guardB true x24) fun x25 =>
(bn (ifb x25 (some (x20.1.g 3))
(some (D.tup []))) fun x26 =>
(bn (guardB true x24) fun x27 =>
(bn (ifb x27 (binO .eql 3 true x26 (n64 1))
(some (D.tup []))) fun x28 =>
(bn (mp (D.bool? x24) fun x29 => (ifb x29 x28
(D.bool false))) fun x29 =>
(bn (leavesD dcall (fun (x30 : St) => (some x29)) (x20.1).df none x23.2) fun x30 =>
(leaveM M RetK.can A x30.1 x30.2))))))))))
(bn (leavesD dcall (fun (x22 : St) => (some (D.bool false))) (x20.1).df none x20.2) fun x22 =>
(leaveM M RetK.can A x22.1 x22.2))))) (fun (x20 : (Res × St)) => (some x20)) x19)))))))))))))))) (fun (x9 : (Res × St)) => (some x9)) x8))))))))))
theorem b47 (M : Mode) (call : CallT) (dcall : DcallT) (a0 : D) (A : St) : bodyN M Tryz.prog rxHint kk call dcall 47 [a0] A = f47 M call dcall a0.canon A := by
  kernel_rfl
theorem r47 (a0 : D) (A : St) : Run Tryz.prog rxA 47 [a0] A = f47 mL (Run Tryz.prog rxA) (Dcall Tryz.prog rxA) a0.canon A := (Run_eqN Tryz.prog rxA kk rfl rfl _ _).trans (b47 mL (Run Tryz.prog rxA) (Dcall Tryz.prog rxA) a0 A)
noncomputable def f50 (M : Mode) (call : CallT) (dcall : DcallT) (a0 : D) (a1 : D) (a2 : D) (a3 : D) (A : St) : (Option (Res × St)) :=
  none
theorem b50 (M : Mode) (call : CallT) (dcall : DcallT) (a0 a1 a2 a3 : D) (A : St) : bodyN M Tryz.prog rxHint kk call dcall 50 [a0, a1, a2, a3] A = f50 M call dcall a0.canon a1.canon a2.canon a3.canon A := by
  kernel_rfl
noncomputable def f51 (M : Mode) (call : CallT) (dcall : DcallT) (a0 : D) (a1 : D) (A : St) : (Option (Res × St)) :=
(bn (call 76 [a0, a1, (n64 0)] A) fun x0 =>
(Res.elim x0.1 (fun x1 => (leaveM M RetK.keep A (Res.ret x1) x0.2)) (fun x1 => (leaveM M RetK.keep A (Res.pan x1) x0.2))))
theorem b51 (M : Mode) (call : CallT) (dcall : DcallT) (a0 a1 : D) (A : St) : bodyN M Tryz.prog rxHint kk call dcall 51 [a0, a1] A = f51 M call dcall a0.canon a1.canon A := by
  kernel_rfl
noncomputable def f52_s0 (M : Mode) (call : CallT) (dcall : DcallT) (A : St) (e : Env) (Av5 : St) : (Option ((Env × St) ⊕ (Res × St))) :=
(bn (nilCheckD (e.g 0)) fun x0 =>
(bn (fieldAddrO 0 x0) fun x1 =>
(bn (fieldAddrO 1 x1) fun x2 =>
(bn (mp (mp (loadO false 1 x2 Av5) fun x3 => (x3, Av5)) fun x3 => x3.1) fun x3 =>
(bn (nilCheckD (e.g 0)) fun x4 =>
(bn (fieldAddrO 2 x4) fun x5 =>
(bn (mp (mp (loadO false 1 x5 Av5) fun x6 => (x6, Av5)) fun x6 => x6.1) fun x6 =>
(bn (lenStrO x6) fun x7 =>
(bn (binO .lss 3 false x3 x7) fun x8 =>
(bn (guardB true x8) fun x9 =>
(bn (ifb x9 (some (e.g 0))
(some (D.tup []))) fun x10 =>
(bn (guardB true x8) fun x11 =>
(bn (ifb x11 (nilCheckD x10)
(some (D.tup []))) fun x12 =>
(bn (guardB true x8) fun x13 =>
(bn (ifb x13 (fieldAddrO 2 x12)
(some (D.tup []))) fun x14 =>
(bn (guardB true x8) fun x15 =>
(bn (ifb x15 (mp (mp (loadO false 1 x14 Av5) fun x16 => (x16, Av5)) fun x16 => x16.1)
(some (D.tup []))) fun x16 =>
(bn (guardB true x8) fun x17 =>
(bn (ifb x17 (some (e.g 0))
(some (D.tup []))) fun x18 =>
(bn (guardB true x8) fun x19 =>
(bn (ifb x19 (nilCheckD x18)
(some (D.tup []))) fun x20 =>
(bn (guardB true x8) fun x21 =>
(bn (ifb x21 (fieldAddrO 0 x20)
(some (D.tup []))) fun x22 =>
(bn (guardB true x8) fun x23 =>
(bn (ifb x23 (fieldAddrO 1 x22)
(some (D.tup []))) fun x24 =>
(bn (guardB true x8) fun x25 =>
(bn (ifb x25 (mp (mp (loadO false 1 x24 Av5) fun x26 => (x26, Av5)) fun x26 => x26.1)
(some (D.tup []))) fun x26 =>
(bn (guardB true x8) fun x27 =>
(bn (ifb x27 (indexStrO x16 x26)
(some (D.tup []))) fun x28 =>
(bn (guardB true x8) fun x29 =>
(bn (ifb x29 (binO .neq 3 true x28 (D.int IntKind.u8 (35 : Int)))
(some (D.tup []))) fun x30 =>
(bn (mp (D.bool? x8) fun x31 => (ifb x31 x30
(D.bool false))) fun x31 =>
(@Mode.gs M ((Env × St) ⊕ (Res × St)) True true (bn (D.bool? x31) fun x32 =>
(ifb x32 (bn (nilCheckD (e.g 0)) fun x33 =>
(bn (fieldAddrO 2 x33) fun x34 =>
(bn (mp (mp (loadO false 1 x34 Av5) fun x35 => (x35, Av5)) fun x35 => x35.1) fun x35 =>
(bn (nilCheckD (e.g 0)) fun x36 =>
(bn (fieldAddrO 0 x36) fun x37 =>
(bn (fieldAddrO 1 x37) fun x38 =>
(bn (mp (mp (loadO false 1 x38 Av5) fun x39 => (x39, Av5)) fun x39 => x39.1) fun x39 =>
(bn (indexStrO x35 x39) fun x40 =>
(@Mode.gs M ((Env × St) ⊕ (Res × St)) True true (bn (binO .eql 3 true x40 (D.int IntKind.u8 (32 : Int))) fun x41 =>
(bn (guardB false x41) fun x42 =>
(bn (ifb x42 (some x40)
(some (D.tup []))) fun x43 =>
(bn (guardB false x41) fun x44 =>
(bn (ifb x44 (binO .eql 3 true x43 (D.int IntKind.u8 (9 : Int)))
(some (D.tup []))) fun x45 =>
(bn (mp (D.bool? x41) fun x46 => (ifb x46 (D.bool true)
 x45)) fun x46 =>
(bn (D.bool? x46) fun x47 =>
(ifb x47 (bn (nilCheckD (e.g 0)) fun x48 =>
(bn (fieldAddrO 0 x48) fun x49 =>
(bn (call 77 [x49, (n64 1)] Av5) fun x50 =>
(Res.elim x50.1 (fun x51 => (some (Sum.inl ((Env.mk (sp [(0, (e.g 0))] 107) (e).df), x50.2)))) (fun x51 => (Option.map (Sum.inr ) (bn (leavesD dcall (fun (x52 : St) => (some (D.tup []))) (e).df (some x51) x50.2) fun x52 =>
(leaveM M RetK.keep A x52.1 x52.2))))))))
(bn (call 78 [(e.g 0)] Av5) fun x48 =>
(Res.elim x48.1 (fun x49 => (bn (binO .eql 3 true x49 (n64 0)) fun x50 =>
(bn (D.bool? x50) fun x51 =>
(bn (ifb x51 (bn (nilCheckD (e.g 0)) fun x52 =>
(bn (fieldAddrO 0 x52) fun x53 =>
(bn (fieldAddrO 0 x53) fun x54 =>
(bn (mp (mp (loadO false 1 x54 x48.2) fun x55 => (x55, x48.2)) fun x55 => x55.1) fun x55 =>
(bn (nilCheckD (e.g 0)) fun x56 =>
(bn (fieldAddrO 0 x56) fun x57 =>
(bn (fieldAddrO 1 x57) fun x58 =>
(bn (mp (mp (loadO false 1 x58 x48.2) fun x59 => (x59, x48.2)) fun x59 => x59.1) fun x59 =>
(bn (binO .add 3 true x59 (n64 1)) fun x60 =>
(bn (Option.map D.agg (Option.bind (layCells false 1 0 [(n64 0), (n64 0)] x55) (fun (x61 : (List D)) => (Option.bind (layCells false 1 1 x61 x60) (fun (x62 : (List D)) => (some x62)))))) fun x61 =>
(@Mode.gs M ((Env × St) ⊕ ((Env × St) ⊕ (Res × St))) True true (Option.map (Sum.inr ) (Option.map (Sum.inr ) (bn (leavesD dcall (fun (x62 : St) => (some (D.tup []))) (e).df (some (D.iface 91 x61)) x48.2) fun x62 =>
(leaveM M RetK.keep A x62.1 x62.2)))))))))))))))
(some (Sum.inl ((Env.mk (sp [(0, (e.g 0)), (2, x49)] 104) (e).df), x48.2)))) fun x52 =>
(Sum.elim (fun (x53 : (Env × St)) => (bn (nilCheckD (x53.1.g 0)) fun x54 =>
(bn (fieldAddrO 3 x54) fun x55 =>
(bn (mp (mp (loadO false 1 x55 x53.2) fun x56 => (x56, x53.2)) fun x56 => x56.1) fun x56 =>
(bn (nilCheckD (x53.1.g 0)) fun x57 =>
(bn (fieldAddrO 2 x57) fun x58 =>
(bn (mp (mp (loadO false 1 x58 x53.2) fun x59 => (x59, x53.2)) fun x59 => x59.1) fun x59 =>
(bn (nilCheckD (x53.1.g 0)) fun x60 =>
(bn (fieldAddrO 0 x60) fun x61 =>
(bn (fieldAddrO 1 x61) fun x62 =>
(bn (mp (mp (loadO false 1 x62 x53.2) fun x63 => (x63, x53.2)) fun x63 => x63.1) fun x63 =>
(bn (nilCheckD (x53.1.g 0)) fun x64 =>
(bn (fieldAddrO 0 x64) fun x65 =>
(bn (fieldAddrO 1 x65) fun x66 =>
(bn (mp (mp (loadO false 1 x66 x53.2) fun x67 => (x67, x53.2)) fun x67 => x67.1) fun x67 =>
(bn (binO .add 3 false x67 (x53.1.g 3)) fun x68 =>
(bn (sliceStrO x59 (some x63) (some x68) none) fun x69 =>
(bn (nilCheckD (x53.1.g 0)) fun x70 =>
(bn (fieldAddrO 0 x70) fun x71 =>
(bn (fieldAddrO 0 x71) fun x72 =>
(bn (mp (mp (loadO false 1 x72 x53.2) fun x73 => (x73, x53.2)) fun x73 => x73.1) fun x73 =>
(bn (nilCheckD (x53.1.g 0)) fun x74 =>
(bn (fieldAddrO 0 x74) fun x75 =>
(bn (fieldAddrO 1 x75) fun x76 =>
(bn (mp (mp (loadO false 1 x76 x53.2) fun x77 => (x77, x53.2)) fun x77 => x77.1) fun x77 =>
(bn (binO .add 3 true x77 (n64 1)) fun x78 =>
(bn (Option.map D.agg (Option.bind (layCells false 1 0 [(D.str []), (n64 0), (n64 0)] x69) (fun (x79 : (List D)) => (Option.bind (layCells false 1 1 x79 x73) (fun (x80 : (List D)) => (Option.bind (layCells false 1 2 x80 x78) (fun (x81 : (List D)) => (some x81)))))))) fun x79 =>
(bn (mp (mp (Option.map (D.sl Own.full 3) (sliceParts 3 true 0 [(0, x79)])) fun x80 => (x80, ([] : St))) fun x80 => x80.1) fun x80 =>
(bn (appendO 3 32 x56 x80 x53.2) fun x81 =>
(bn (nilCheckD (x53.1.g 0)) fun x82 =>
(bn (fieldAddrO 3 x82) fun x83 =>
(bn (mp (storeO false 1 x83 x81.1 x81.2) fun x84 => ((D.tup []), x84)) fun x84 =>
(@Mode.gs M ((Env × St) ⊕ (Res × St)) True true (bn (nilCheckD (x53.1.g 0)) fun x85 =>
(bn (fieldAddrO 0 x85) fun x86 =>
(bn (call 77 [x86, (x53.1.g 3)] x84.2) fun x87 =>
(Res.elim x87.1 (fun x88 => (some (Sum.inl ((Env.mk (sp [(0, (x53.1.g 0))] 107) (x53.1).df), x87.2)))) (fun x88 => (Option.map (Sum.inr ) (bn (leavesD dcall (fun (x89 : St) => (some (D.tup []))) (x53.1).df (some x88) x87.2) fun x89 =>
(leaveM M RetK.keep A x89.1 x89.2))))))))))))))))))))))))))))))))))))))))) (fun (x53 : ((Env × St) ⊕ (Res × St))) => (some x53)) x52))))) (fun x49 => (Option.map (Sum.inr ) (bn (leavesD dcall (fun (x50 : St) => (some (D.tup []))) (e).df (some x49) x48.2) fun x50 =>
(leaveM M RetK.keep A x50.1 x50.2)))))))))))))))))))))))
(Option.map (Sum.inr ) (bn (leavesD dcall (fun (x33 : St) => (some (D.tup []))) (e).df none Av5) fun x33 =>
(leaveM M RetK.keep A x33.1 x33.2))))))))))))))))))))))))))))))))))))))
noncomputable def f52 (M : Mode) (call : CallT) (dcall : DcallT) (a0 : D) (A : St) : (Option (Res × St)) :=
(@Mode.it M (Res × St) (f52_s0 M call dcall A) (Env.mk (sp [(0, a0)] 107) []) A)
theorem b52 (M : Mode) (call : CallT) (dcall : DcallT) (a0 : D) (A : St) : bodyN M Tryz.prog rxHint kk call dcall 52 [a0] A = f52 M call dcall a0.canon A := by
  kernel_rfl
noncomputable def f54 (M : Mode) (call : CallT) (dcall : DcallT) (a0 : D) (a1 : D) (a2 : D) (A : St) : (Option (Res × St)) :=
  none
theorem b54 (M : Mode) (call : CallT) (dcall : DcallT) (a0 a1 a2 : D) (A : St) : bodyN M Tryz.prog rxHint kk call dcall 54 [a0, a1, a2] A = f54 M call dcall a0.canon a1.canon a2.canon A := by
  kernel_rfl
noncomputable def f55_s0 (M : Mode) (call : CallT) (dcall : DcallT) (A : St) (e : Env) (Av5 : St) : (Option ((Env × St) ⊕ (Res × St))) :=
(bn (nilCheckD (e.g 0)) fun x0 =>
(bn (fieldAddrO 0 x0) fun x1 =>
(bn (mp (Option.map (D.sl Own.full 1) (sliceParts 1 false 0 [(0, (D.str [(124 : UInt8)]))])) fun x2 => (x2, Av5)) fun x2 =>
(bn (call 80 [x1, x2.1] x2.2) fun x3 =>
(Res.elim x3.1 (fun x4 => (bn (extractD x4 0) fun x5 =>
(bn (extractD x4 1) fun x6 =>
(bn (unD UnOp.not x6) fun x7 =>
(bn (D.bool? x7) fun x8 =>
(ifb x8 (Option.map (Sum.inr ) (bn (lenSlO (e.g 3)) fun x9 =>
(bn (binO .eql 3 true x9 (n64 1)) fun x10 =>
(bn (D.bool? x10) fun x11 =>
(ifb x11 (bn (indexAddrO 3 true (e.g 3) (n64 0)) fun x12 =>
(bn (mp (loadO true 3 x12 x3.2) fun x13 => (x13, x3.2)) fun x13 =>
(bn (mp (storeO true 3 (e.g 2) x13.1 x13.2) fun x14 => ((D.tup []), x14)) fun x14 =>
(bn (leavesD dcall (fun (x15 : St) => (Option.map packD (Option.bind (loadO true 3 (e.g 2) x15) (fun x16 => (some [x16]))))) (e).df none x14.2) fun x15 =>
(leaveM M RetK.can A x15.1 x15.2)))))
(bn (call 81 [(n64 5), (e.g 3)] x3.2) fun x12 =>
(Res.elim x12.1 (fun x13 => (bn (mp (storeO true 3 (e.g 2) x13 x12.2) fun x14 => ((D.tup []), x14)) fun x14 =>
(bn (leavesD dcall (fun (x15 : St) => (Option.map packD (Option.bind (loadO true 3 (e.g 2) x15) (fun x16 => (some [x16]))))) (e).df none x14.2) fun x15 =>
(leaveM M RetK.can A x15.1 x15.2)))) (fun x13 => (bn (leavesD dcall (fun (x14 : St) => (Option.map packD (Option.bind (loadO true 3 (e.g 2) x14) (fun x15 => (some [x15]))))) (e).df (some x13) x12.2) fun x14 =>
(leaveM M RetK.can A x14.1 x14.2))))))))))
(bn (call 79 [(e.g 0)] x3.2) fun x9 =>
(Res.elim x9.1 (fun x10 => (bn (mp (Option.map (D.sl Own.full 3) (sliceParts 3 true 0 [(0, x10)])) fun x11 => (x11, x9.2)) fun x11 =>
(bn (appendO 3 48 (e.g 3) x11.1 x11.2) fun x12 =>
(some (Sum.inl ((Env.mk (sp [(0, (e.g 0)), (1, (e.g 2)), (0, x12.1)] 28) (e).df), x12.2)))))) (fun x10 => (Option.map (Sum.inr ) (bn (leavesD dcall (fun (x11 : St) => (Option.map packD (Option.bind (loadO true 3 (e.g 2) x11) (fun x12 => (some [x12]))))) (e).df (some x10) x9.2) fun x11 =>
(leaveM M RetK.can A x11.1 x11.2)))))))))))) (fun x4 => (Option.map (Sum.inr ) (bn (leavesD dcall (fun (x5 : St) => (Option.map packD (Option.bind (loadO true 3 (e.g 2) x5) (fun x6 => (some [x6]))))) (e).df (some x4) x3.2) fun x5 =>
(leaveM M RetK.can A x5.1 x5.2)))))))))
noncomputable def f55 (M : Mode) (call : CallT) (dcall : DcallT) (a0 : D) (A : St) : (Option (Res × St)) :=
(bn (allocO [(n64 0), (D.str []), (D.sl Own.full 0 [])] A) fun x0 =>
(bn (call 79 [a0] x0.2) fun x1 =>
(Res.elim x1.1 (fun x2 => (bn (mp (Option.map (D.sl Own.full 3) (sliceParts 3 true 0 [(0, x2)])) fun x3 => (x3, x1.2)) fun x3 =>
(@Mode.it M (Res × St) (f55_s0 M call dcall A) (Env.mk (sp [(0, a0), (1, x0.1), (0, x3.1)] 28) []) x3.2))) (fun x2 => (leaveM M RetK.can A (Res.pan x2) x1.2)))))
theorem b55 (M : Mode) (call : CallT) (dcall : DcallT) (a0 : D) (A : St) : bodyN M Tryz.prog rxHint kk call dcall 55 [a0] A = f55 M call dcall a0.canon A := by
  kernel_rfl
noncomputable def f56 (M : Mode) (call : CallT) (dcall : DcallT) (a0 : D) (a1 : D) (A : St) : (Option (Res × St)) :=
(bn (nilCheckD a0) fun x0 =>
(bn (fieldAddrO 1 x0) fun x1 =>
(bn (mp (loadO false 1 x1 A) fun x2 => (x2, A)) fun x2 =>
(bn (Option.map D.agg (Option.bind (layCells false 1 0 [(n64 0), (n64 0)] x2.1) (fun (x3 : (List D)) => (Option.bind (layCells false 1 1 x3 a1) (fun (x4 : (List D)) => (some x4)))))) fun x3 =>
(leaveM M RetK.can A (Res.pan (D.iface 103 x3)) x2.2)))))
theorem b56 (M : Mode) (call : CallT) (dcall : DcallT) (a0 a1 : D) (A : St) : bodyN M Tryz.prog rxHint kk call dcall 56 [a0, a1] A = f56 M call dcall a0.canon a1.canon A := by
  kernel_rfl
noncomputable def f57_s0 (M : Mode) (call : CallT) (dcall : DcallT) (A : St) (e : Env) (Av5 : St) : (Option ((Env × St) ⊕ (Res × St))) :=
(bn (binO .lss 3 false (e.g 38) (e.g 37)) fun x0 =>
(bn (D.bool? x0) fun x1 =>
(ifb x1 (bn (indexAddrO 3 true (e.g 36) (e.g 38)) fun x2 =>
(bn (mp (loadO true 3 x2 Av5) fun x3 => (x3, Av5)) fun x3 =>
(bn (allocO [(D.str []), (n64 0), (n64 0)] x3.2) fun x4 =>
(bn (mp (storeO true 3 x4.1 x3.1 x4.2) fun x5 => ((D.tup []), x5)) fun x5 =>
(bn (fieldAddrO 0 x4.1) fun x6 =>
(bn (mp (mp (loadO false 1 x6 x5.2) fun x7 => (x7, x5.2)) fun x7 => x7.1) fun x7 =>
(bn (indexAddrO 1 false (e.g 1) (e.g 38)) fun x8 =>
(bn (mp (mp (loadO false 1 x8 x5.2) fun x9 => (x9, x5.2)) fun x9 => x9.1) fun x9 =>
(bn (binO .neq 3 false x7 x9) fun x10 =>
(@Mode.gs M ((Env × St) ⊕ (Res × St)) True true (bn (D.bool? x10) fun x11 =>
(ifb x11 (Option.map (Sum.inr ) (bn (leavesD dcall (fun (x12 : St) => (some (D.bool false))) (e).df none x5.2) fun x12 =>
(leaveM M RetK.can A x12.1 x12.2)))
(bn (binO .add 3 true (e.g 38) (n64 1)) fun x12 =>
(@Mode.gk M ((Env × St) ⊕ (Res × St)) Av5 x5.2 (some (Sum.inl ((Env.mk (sp [(1, (D.shut (List.length Av5) (e.g 1))), (34, (D.shut (List.length Av5) (e.g 36))), (0, (D.shut (List.length Av5) (e.g 37))), (0, (D.shut (List.length Av5) x12))] 12) (List.map (fun (x13 : (D × (List D))) => ((D.shut (List.length Av5) x13.1), (D.shutL (List.length Av5) x13.2))) (e).df)), (List.take (List.length Av5) x5.2))))))))))))))))))
(Option.map (Sum.inr ) (bn (leavesD dcall (fun (x2 : St) => (some (D.bool true))) (e).df none Av5) fun x2 =>
(leaveM M RetK.can A x2.1 x2.2))))))
noncomputable def f57 (M : Mode) (call : CallT) (dcall : DcallT) (a0 : D) (a1 : D) (A : St) : (Option (Res × St)) :=
(bn (call 38 [a0] A) fun x0 =>
(Res.elim x0.1 (fun x1 => (bn (extractD x1 0) fun x2 =>
(bn (extractD x1 1) fun x3 =>
(bn (extractD x1 2) fun x4 =>
(bn (extractD x1 3) fun x5 =>
(bn (binO .neq 3 true x5 (n64 0)) fun x6 =>
(bn (guardB false x6) fun x7 =>
(bn (ifb x7 (some x2)
(some (D.tup []))) fun x8 =>
(bn (guardB false x6) fun x9 =>
(bn (ifb x9 (lenSlO x8)
(some (D.tup []))) fun x10 =>
(bn (guardB false x6) fun x11 =>
(bn (ifb x11 (binO .neq 3 true x10 (n64 1))
(some (D.tup []))) fun x12 =>
(bn (mp (D.bool? x6) fun x13 => (ifb x13 (D.bool true)
 x12)) fun x13 =>
(bn (guardB false x13) fun x14 =>
(bn (ifb x14 (some x2)
(some (D.tup []))) fun x15 =>
(bn (guardB false x13) fun x16 =>
(bn (ifb x16 (indexAddrO 1 false x15 (n64 0))
(some (D.tup []))) fun x17 =>
(bn (guardB false x13) fun x18 =>
(bn (ifb x18 (mp (loadO false 1 x17 x0.2) fun x19 => (x19, x0.2))
(some ((D.tup []), x0.2))) fun x19 =>
(bn (guardB false x13) fun x20 =>
(bn (ifb x20 (lenSlO x19.1)
(some (D.tup []))) fun x21 =>
(bn (guardB false x13) fun x22 =>
(bn (ifb x22 (some a1)
(some (D.tup []))) fun x23 =>
(bn (guardB false x13) fun x24 =>
(bn (ifb x24 (lenSlO x23)
(some (D.tup []))) fun x25 =>
(bn (guardB false x13) fun x26 =>
(bn (ifb x26 (binO .neq 3 false x21 x25)
(some (D.tup []))) fun x27 =>
(bn (mp (D.bool? x13) fun x28 => (ifb x28 (D.bool true)
 x27)) fun x28 =>
(bn (D.bool? x28) fun x29 =>
(ifb x29 (leaveM M RetK.can A (Res.ret (D.bool false)) x19.2)
(bn (indexAddrO 1 false x2 (n64 0)) fun x30 =>
(bn (mp (loadO false 1 x30 x19.2) fun x31 => (x31, x19.2)) fun x31 =>
(bn (lenSlO x31.1) fun x32 =>
(@Mode.it M (Res × St) (f57_s0 M call dcall A) (Env.mk (sp [(1, a1), (34, x31.1), (0, x32), (0, (n64 0))] 12) []) x31.2)))))))))))))))))))))))))))))))))) (fun x1 => (leaveM M RetK.can A (Res.pan x1) x0.2))))
theorem b57 (M : Mode) (call : CallT) (dcall : DcallT) (a0 a1 : D) (A : St) : bodyN M Tryz.prog rxHint kk call dcall 57 [a0, a1] A = f57 M call dcall a0.canon a1.canon A := by
  kernel_rfl
noncomputable def f58 (M : Mode) (call : CallT) (dcall : DcallT) (a0 : D) (A : St) : (Option (Res × St)) :=
(bn (boxO true a0 A) fun x0 =>
(bn (fieldAddrO 0 x0.1) fun x1 =>
(bn (mp (loadO false 1 x1 x0.2) fun x2 => (x2, x0.2)) fun x2 =>
(bn (binO .eql 3 true x2.1 (n64 5)) fun x3 =>
(bn (D.bool? x3) fun x4 =>
(ifb x4 (leaveM M RetK.can A (Res.ret (n64 1)) x2.2)
(bn (fieldAddrO 0 x0.1) fun x5 =>
(bn (mp (loadO false 1 x5 x2.2) fun x6 => (x6, x2.2)) fun x6 =>
(bn (binO .eql 3 true x6.1 (n64 4)) fun x7 =>
(bn (guardB true x7) fun x8 =>
(bn (ifb x8 (fieldAddrO 2 x0.1)
(some (D.tup []))) fun x9 =>
(bn (guardB true x7) fun x10 =>
(bn (ifb x10 (mp (loadO false 1 x9 x6.2) fun x11 => (x11, x6.2))
(some ((D.tup []), x6.2))) fun x11 =>
(bn (guardB true x7) fun x12 =>
(bn (ifb x12 (lenSlO x11.1)
(some (D.tup []))) fun x13 =>
(bn (guardB true x7) fun x14 =>
(bn (ifb x14 (binO .gtr 3 true x13 (n64 0))
(some (D.tup []))) fun x15 =>
(bn (mp (D.bool? x7) fun x16 => (ifb x16 x15
(D.bool false))) fun x16 =>
(bn (D.bool? x16) fun x17 =>
(ifb x17 (leaveM M RetK.can A (Res.ret (n64 2)) x11.2)
(leaveM M RetK.can A (Res.ret (n64 3)) x11.2)))))))))))))))))))))
theorem b58 (M : Mode) (call : CallT) (dcall : DcallT) (a0 : D) (A : St) : bodyN M Tryz.prog rxHint kk call dcall 58 [a0] A = f58 M call dcall a0.canon A := by
  kernel_rfl
noncomputable def f59_s0 (M : Mode) (call : CallT) (dcall : DcallT) (A : St) (e : Env) (Av5 : St) : (Option ((Env × St) ⊕ (Res × St))) :=
(bn (binO .lss 3 false (e.g 27) (e.g 26)) fun x0 =>
(bn (D.bool? x0) fun x1 =>
(ifb x1 (bn (indexAddrO 1 false (e.g 25) (e.g 27)) fun x2 =>
(bn (mp (loadO false 1 x2 Av5) fun x3 => (x3, Av5)) fun x3 =>
(bn (appendO 1 16 (e.g 6) x3.1 x3.2) fun x4 =>
(bn (binO .add 3 true (e.g 27) (n64 1)) fun x5 =>
(some (Sum.inl ((Env.mk (sp [(6, x4.1), (18, (e.g 25)), (0, (e.g 26)), (0, x5)] 8) (e).df), x4.2)))))))
(Option.map (Sum.inr ) (bn (leavesD dcall (fun (x2 : St) => (some (e.g 6))) (e).df none Av5) fun x2 =>
(leaveM M RetK.own A x2.1 x2.2))))))
noncomputable def f59_s1 (M : Mode) (call : CallT) (dcall : DcallT) (A : St) (e : Env) (Av5 : St) : (Option ((Env × St) ⊕ (Res × St))) :=
(bn (binO .lss 3 false (e.g 11) (e.g 10)) fun x0 =>
(bn (D.bool? x0) fun x1 =>
(ifb x1 (bn (indexAddrO 1 false (e.g 9) (e.g 11)) fun x2 =>
(bn (mp (loadO false 1 x2 Av5) fun x3 => (x3, Av5)) fun x3 =>
(bn (lenSlO x3.1) fun x4 =>
(bn (binO .add 3 false (e.g 3) x4) fun x5 =>
(bn (binO .lss 3 true x5 (n64 0)) fun x6 =>
(bn (D.bool? x6) fun x7 =>
(bn (ifb x7 (Option.map (Sum.inr ) (Option.map (Sum.inr ) (bn (leavesD dcall (fun (x8 : St) => (some (e.g 2))) (e).df (some (D.iface 9 (D.str [(108 : UInt8), (101 : UInt8), (110 : UInt8), (32 : UInt8), (111 : UInt8), (117 : UInt8), (116 : UInt8), (32 : UInt8), (111 : UInt8), (102 : UInt8), (32 : UInt8), (114 : UInt8), (97 : UInt8), (110 : UInt8), (103 : UInt8), (101 : UInt8)]))) x3.2) fun x8 =>
(leaveM M RetK.own A x8.1 x8.2))))
(some (Sum.inl ((Env.mk (sp [(0, (e.g 0)), (2, x5), (5, (e.g 9)), (0, (e.g 10)), (0, (e.g 11))] 24) (e).df), x3.2)))) fun x8 =>
(Sum.elim (fun (x9 : (Env × St)) => (bn (binO .add 3 true (x9.1.g 11) (n64 1)) fun x10 =>
(some (Sum.inl ((Env.mk (sp [(0, (x9.1.g 0)), (2, (x9.1.g 3)), (5, (x9.1.g 9)), (0, (x9.1.g 10)), (0, x10)] 24) (x9.1).df), x9.2))))) (fun (x9 : ((Env × St) ⊕ (Res × St))) => (some x9)) x8))))))))
(Option.map (Sum.inr ) (bn (call 82 [(D.sl Own.full 0 []), (e.g 3)] Av5) fun x2 =>
(Res.elim x2.1 (fun x3 => (bn (lenSlO (e.g 0)) fun x4 =>
(@Mode.it M (Res × St) (f59_s0 M call dcall A) (Env.mk (sp [(6, x3), (18, (e.g 0)), (0, x4), (0, (n64 0))] 8) (e).df) x2.2))) (fun x3 => (bn (leavesD dcall (fun (x4 : St) => (some (e.g 2))) (e).df (some x3) x2.2) fun x4 =>
(leaveM M RetK.own A x4.1 x4.2)))))))))
noncomputable def f59 (M : Mode) (call : CallT) (dcall : DcallT) (a0 : D) (A : St) : (Option (Res × St)) :=
(bn (lenSlO a0) fun x0 =>
(@Mode.it M (Res × St) (f59_s1 M call dcall A) (Env.mk (sp [(0, a0), (2, (n64 0)), (5, a0), (0, x0), (0, (n64 0))] 24) []) A))
theorem b59 (M : Mode) (call : CallT) (dcall : DcallT) (a0 : D) (A : St) : bodyN M Tryz.prog rxHint kk call dcall 59 [a0] A = f59 M call dcall a0.canon A := by
  kernel_rfl
noncomputable def f60 (M : Mode) (call : CallT) (dcall : DcallT) (a0 : D) (A : St) : (Option (Res × St)) :=
(bn (binO .geq 3 true a0 (D.int IntKind.u8 (48 : Int))) fun x0 =>
(bn (guardB true x0) fun x1 =>
(bn (ifb x1 (some a0)
(some (D.tup []))) fun x2 =>
(bn (guardB true x0) fun x3 =>
(bn (ifb x3 (binO .leq 3 true x2 (D.int IntKind.u8 (57 : Int)))
(some (D.tup []))) fun x4 =>
(bn (mp (D.bool? x0) fun x5 => (ifb x5 x4
(D.bool false))) fun x5 =>
(leaveM M RetK.can A (Res.ret x5) A)))))))
theorem b60 (M : Mode) (call : CallT) (dcall : DcallT) (a0 : D) (A : St) : bodyN M Tryz.prog rxHint kk call dcall 60 [a0] A = f60 M call dcall a0.canon A := by
  kernel_rfl
theorem r60 (a0 : D) (A : St) : Run Tryz.prog rxA 60 [a0] A = f60 mL (Run Tryz.prog rxA) (Dcall Tryz.prog rxA) a0.canon A := (Run_eqN Tryz.prog rxA kk rfl rfl _ _).trans (b60 mL (Run Tryz.prog rxA) (Dcall Tryz.prog rxA) a0 A)
noncomputable def f61 (M : Mode) (call : CallT) (dcall : DcallT) (a0 : D) (A : St) : (Option (Res × St)) :=
(bn (binO .or 3 true a0 (D.int IntKind.u8 (32 : Int))) fun x0 =>
(bn (binO .geq 3 true x0 (D.int IntKind.u8 (97 : Int))) fun x1 =>
(bn (guardB true x1) fun x2 =>
(bn (ifb x2 (some x0)
(some (D.tup []))) fun x3 =>
(bn (guardB true x1) fun x4 =>
(bn (ifb x4 (binO .leq 3 true x3 (D.int IntKind.u8 (122 : Int)))
(some (D.tup []))) fun x5 =>
(bn (mp (D.bool? x1) fun x6 => (ifb x6 x5
(D.bool false))) fun x6 =>
(bn (guardB false x6) fun x7 =>
(bn (ifb x7 (some a0)
(some (D.tup []))) fun x8 =>
(bn (guardB false x6) fun x9 =>
(bn (ifb x9 (call 60 [x8] A)
(some ((Res.ret (D.tup [])), A))) fun x10 =>
(Res.elim x10.1 (fun x11 => (bn (mp (D.bool? x6) fun x12 => (ifb x12 (D.bool true)
 x11)) fun x12 =>
(bn (guardB false x12) fun x13 =>
(bn (ifb x13 (some a0)
(some (D.tup []))) fun x14 =>
(bn (guardB false x12) fun x15 =>
(bn (ifb x15 (binO .eql 3 true x14 (D.int IntKind.u8 (95 : Int)))
(some (D.tup []))) fun x16 =>
(bn (mp (D.bool? x12) fun x17 => (ifb x17 (D.bool true)
 x16)) fun x17 =>
(bn (guardB false x17) fun x18 =>
(bn (ifb x18 (some a0)
(some (D.tup []))) fun x19 =>
(bn (guardB false x17) fun x20 =>
(bn (ifb x20 (binO .eql 3 true x19 (D.int IntKind.u8 (45 : Int)))
(some (D.tup []))) fun x21 =>
(bn (mp (D.bool? x17) fun x22 => (ifb x22 (D.bool true)
 x21)) fun x22 =>
(leaveM M RetK.can A (Res.ret x22) x10.2))))))))))))) (fun x11 => (leaveM M RetK.can A (Res.pan x11) x10.2))))))))))))))
theorem b61 (M : Mode) (call : CallT) (dcall : DcallT) (a0 : D) (A : St) : bodyN M Tryz.prog rxHint kk call dcall 61 [a0] A = f61 M call dcall a0.canon A := by
  kernel_rfl
theorem r61 (a0 : D) (A : St) : Run Tryz.prog rxA 61 [a0] A = f61 mL (Run Tryz.prog rxA) (Dcall Tryz.prog rxA) a0.canon A := (Run_eqN Tryz.prog rxA kk rfl rfl _ _).trans (b61 mL (Run Tryz.prog rxA) (Dcall Tryz.prog rxA) a0 A)
noncomputable def f62_s0 (M : Mode) (call : CallT) (dcall : DcallT) (A : St) (e : Env) (Av5 : St) : (Option ((Env × St) ⊕ (Res × St))) :=
(bn (binO .lss 3 false (e.g 8) (e.g 7)) fun x0 =>
(bn (D.bool? x0) fun x1 =>
(ifb x1 (bn (indexAddrO 3 true (e.g 0) (e.g 8)) fun x2 =>
(bn (mp (loadO true 3 x2 Av5) fun x3 => (x3, Av5)) fun x3 =>
(bn (applyD call (e.g 1) [x3.1] x3.2) fun x4 =>
(Res.elim x4.1 (fun x5 => (bn (D.bool? x5) fun x6 =>
(ifb x6 (Option.map (Sum.inr ) (bn (leavesD dcall (fun (x7 : St) => (some (e.g 8))) (e).df none x4.2) fun x7 =>
(leaveM M RetK.can A x7.1 x7.2)))
(bn (binO .add 3 true (e.g 8) (n64 1)) fun x7 =>
(@Mode.gk M ((Env × St) ⊕ (Res × St)) Av5 x4.2 (some (Sum.inl ((Env.mk (sp [(0, (D.shut (List.length Av5) (e.g 0))), (0, (D.shut (List.length Av5) (e.g 1))), (5, (D.shut (List.length Av5) (e.g 7))), (0, (D.shut (List.length Av5) x7))] 10) (List.map (fun (x8 : (D × (List D))) => ((D.shut (List.length Av5) x8.1), (D.shutL (List.length Av5) x8.2))) (e).df)), (List.take (List.length Av5) x4.2))))))))) (fun x5 => (Option.map (Sum.inr ) (bn (leavesD dcall (fun (x6 : St) => (some (e.g 4))) (e).df (some x5) x4.2) fun x6 =>
(leaveM M RetK.can A x6.1 x6.2))))))))
(Option.map (Sum.inr ) (bn (leavesD dcall (fun (x2 : St) => (some (n64 (-1)))) (e).df none Av5) fun x2 =>
(leaveM M RetK.can A x2.1 x2.2))))))
noncomputable def f62 (M : Mode) (call : CallT) (dcall : DcallT) (a0 : D) (a1 : D) (A : St) : (Option (Res × St)) :=
(bn (lenSlO a0) fun x0 =>
(@Mode.it M (Res × St) (f62_s0 M call dcall A) (Env.mk (sp [(0, a0), (0, a1), (5, x0), (0, (n64 0))] 10) []) A))
theorem b62 (M : Mode) (call : CallT) (dcall : DcallT) (a0 a1 : D) (A : St) : bodyN M Tryz.prog rxHint kk call dcall 62 [a0, a1] A = f62 M call dcall a0.canon a1.canon A := by
  kernel_rfl
theorem r62 (a0 a1 : D) (A : St) : Run Tryz.prog rxA 62 [a0, a1] A = f62 mL (Run Tryz.prog rxA) (Dcall Tryz.prog rxA) a0.canon a1.canon A := (Run_eqN Tryz.prog rxA kk rfl rfl _ _).trans (b62 mL (Run Tryz.prog rxA) (Dcall Tryz.prog rxA) a0 a1 A)
noncomputable def f63_s0 (M : Mode) (call : CallT) (dcall : DcallT) (A : St) (e : Env) (Av5 : St) : (Option ((Env × St) ⊕ (Res × St))) :=
(bn (lenStrO (e.g 0)) fun x0 =>
(bn (binO .lss 3 false (e.g 3) x0) fun x1 =>
(bn (D.bool? x1) fun x2 =>
(ifb x2 (bn (indexStrO (e.g 0) (e.g 3)) fun x3 =>
(bn (call 83 [x3] Av5) fun x4 =>
(Res.elim x4.1 (fun x5 => (bn (unD UnOp.not x5) fun x6 =>
(bn (D.bool? x6) fun x7 =>
(ifb x7 (Option.map (Sum.inr ) (bn (leavesD dcall (fun (x8 : St) => (some (D.bool false))) (e).df none x4.2) fun x8 =>
(leaveM M RetK.can A x8.1 x8.2)))
(bn (binO .add 3 true (e.g 3) (n64 1)) fun x8 =>
(@Mode.gk M ((Env × St) ⊕ (Res × St)) Av5 x4.2 (some (Sum.inl ((Env.mk (sp [(0, (D.shut (List.length Av5) (e.g 0))), (2, (D.shut (List.length Av5) x8))] 29) (List.map (fun (x9 : (D × (List D))) => ((D.shut (List.length Av5) x9.1), (D.shutL (List.length Av5) x9.2))) (e).df)), (List.take (List.length Av5) x4.2)))))))))) (fun x5 => (Option.map (Sum.inr ) (bn (leavesD dcall (fun (x6 : St) => (some (e.g 2))) (e).df (some x5) x4.2) fun x6 =>
(leaveM M RetK.can A x6.1 x6.2)))))))
(Option.map (Sum.inr ) (bn (binO .neq 3 true (e.g 0) (D.str [])) fun x3 =>
(bn (guardB true x3) fun x4 =>
(bn (ifb x4 (some (e.g 0))
(some (D.tup []))) fun x5 =>
(bn (guardB true x3) fun x6 =>
(bn (ifb x6 (lenStrO x5)
(some (D.tup []))) fun x7 =>
(bn (guardB true x3) fun x8 =>
(bn (ifb x8 (binO .leq 3 true x7 (n64 64))
(some (D.tup []))) fun x9 =>
(bn (mp (D.bool? x3) fun x10 => (ifb x10 x9
(D.bool false))) fun x10 =>
(bn (guardB true x10) fun x11 =>
(bn (ifb x11 (some (e.g 0))
(some (D.tup []))) fun x12 =>
(bn (guardB true x10) fun x13 =>
(bn (ifb x13 (indexStrO x12 (n64 0))
(some (D.tup []))) fun x14 =>
(bn (guardB true x10) fun x15 =>
(bn (ifb x15 (call 84 [x14] Av5)
(some ((Res.ret (D.tup [])), Av5))) fun x16 =>
(Res.elim x16.1 (fun x17 => (bn (guardB true x10) fun x18 =>
(bn (ifb x18 (unD UnOp.not x17)
(some (D.tup []))) fun x19 =>
(bn (mp (D.bool? x10) fun x20 => (ifb x20 x19
(D.bool false))) fun x20 =>
(bn (guardB true x20) fun x21 =>
(bn (ifb x21 (some (e.g 0))
(some (D.tup []))) fun x22 =>
(bn (guardB true x20) fun x23 =>
(bn (ifb x23 (indexStrO x22 (n64 0))
(some (D.tup []))) fun x24 =>
(bn (guardB true x20) fun x25 =>
(bn (ifb x25 (binO .neq 3 true x24 (D.int IntKind.u8 (45 : Int)))
(some (D.tup []))) fun x26 =>
(bn (mp (D.bool? x20) fun x27 => (ifb x27 x26
(D.bool false))) fun x27 =>
(bn (leavesD dcall (fun (x28 : St) => (some x27)) (e).df none x16.2) fun x28 =>
(leaveM M RetK.can A x28.1 x28.2))))))))))))) (fun x17 => (bn (leavesD dcall (fun (x18 : St) => (some (e.g 2))) (e).df (some x17) x16.2) fun x18 =>
(leaveM M RetK.can A x18.1 x18.2)))))))))))))))))))))))
noncomputable def f63 (M : Mode) (call : CallT) (dcall : DcallT) (a0 : D) (A : St) : (Option (Res × St)) :=
(@Mode.it M (Res × St) (f63_s0 M call dcall A) (Env.mk (sp [(0, a0), (2, (n64 0))] 29) []) A)
theorem b63 (M : Mode) (call : CallT) (dcall : DcallT) (a0 : D) (A : St) : bodyN M Tryz.prog rxHint kk call dcall 63 [a0] A = f63 M call dcall a0.canon A := by
  kernel_rfl
theorem r63 (a0 : D) (A : St) : Run Tryz.prog rxA 63 [a0] A = f63 mL (Run Tryz.prog rxA) (Dcall Tryz.prog rxA) a0.canon A := (Run_eqN Tryz.prog rxA kk rfl rfl _ _).trans (b63 mL (Run Tryz.prog rxA) (Dcall Tryz.prog rxA) a0 A)
noncomputable def f64_s0 (M : Mode) (call : CallT) (dcall : DcallT) (A : St) (e : Env) (Av5 : St) : (Option ((Env × St) ⊕ (Res × St))) :=
(bn (lenSlO (e.g 0)) fun x0 =>
(bn (binO .lss 3 false (e.g 5) x0) fun x1 =>
(bn (D.bool? x1) fun x2 =>
(ifb x2 (bn (indexAddrO 3 true (e.g 0) (e.g 5)) fun x3 =>
(bn (fieldAddrO 0 x3) fun x4 =>
(bn (mp (loadO false 1 x4 Av5) fun x5 => (x5, Av5)) fun x5 =>
(bn (binO .eql 3 false x5.1 (e.g 1)) fun x6 =>
(bn (D.bool? x6) fun x7 =>
(ifb x7 (Option.map (Sum.inr ) (bn (leavesD dcall (fun (x8 : St) => (some (D.bool false))) (e).df none x5.2) fun x8 =>
(leaveM M RetK.can A x8.1 x8.2)))
(bn (binO .add 3 true (e.g 5) (n64 1)) fun x8 =>
(@Mode.gk M ((Env × St) ⊕ (Res × St)) Av5 x5.2 (some (Sum.inl ((Env.mk (sp [(0, (D.shut (List.length Av5) (e.g 0))), (0, (D.shut (List.length Av5) (e.g 1))), (3, (D.shut (List.length Av5) x8))] 13) (List.map (fun (x9 : (D × (List D))) => ((D.shut (List.length Av5) x9.1), (D.shutL (List.length Av5) x9.2))) (e).df)), (List.take (List.length Av5) x5.2))))))))))))
(Option.map (Sum.inr ) (bn (leavesD dcall (fun (x3 : St) => (some (D.bool true))) (e).df none Av5) fun x3 =>
(leaveM M RetK.can A x3.1 x3.2)))))))
noncomputable def f64 (M : Mode) (call : CallT) (dcall : DcallT) (a0 : D) (a1 : D) (A : St) : (Option (Res × St)) :=
(@Mode.it M (Res × St) (f64_s0 M call dcall A) (Env.mk (sp [(0, a0), (0, a1), (3, (n64 0))] 13) []) A)
theorem b64 (M : Mode) (call : CallT) (dcall : DcallT) (a0 a1 : D) (A : St) : bodyN M Tryz.prog rxHint kk call dcall 64 [a0, a1] A = f64 M call dcall a0.canon a1.canon A := by
  kernel_rfl
theorem r64 (a0 a1 : D) (A : St) : Run Tryz.prog rxA 64 [a0, a1] A = f64 mL (Run Tryz.prog rxA) (Dcall Tryz.prog rxA) a0.canon a1.canon A := (Run_eqN Tryz.prog rxA kk rfl rfl _ _).trans (b64 mL (Run Tryz.prog rxA) (Dcall Tryz.prog rxA) a0 a1 A)
noncomputable def f76 (M : Mode) (call : CallT) (dcall : DcallT) (a0 : D) (a1 : D) (a2 : D) (A : St) : (Option (Res × St)) :=
(bn (boxO false a0 A) fun x0 =>
(bn (boxO false a1 x0.2) fun x1 =>
(bn (boxO false a2 x1.2) fun x2 =>
(leaveM M RetK.keep A (Res.ret (D.fn (Fn.func 91) [] [x1.1, x0.1, x2.1])) x2.2))))
theorem b76 (M : Mode) (call : CallT) (dcall : DcallT) (a0 a1 a2 : D) (A : St) : bodyN M Tryz.prog rxHint kk call dcall 76 [a0, a1, a2] A = f76 M call dcall a0.canon a1.canon a2.canon A := by
  kernel_rfl
noncomputable def f77 (M : Mode) (call : CallT) (dcall : DcallT) (a0 : D) (a1 : D) (A : St) : (Option (Res × St)) :=
(bn (nilCheckD a0) fun x0 =>
(bn (fieldAddrO 1 x0) fun x1 =>
(bn (mp (loadO false 1 x1 A) fun x2 => (x2, A)) fun x2 =>
(bn (binO .add 3 false x2.1 a1) fun x3 =>
(bn (nilCheckD a0) fun x4 =>
(bn (fieldAddrO 1 x4) fun x5 =>
(bn (mp (storeO false 1 x5 x3 x2.2) fun x6 => ((D.tup []), x6)) fun x6 =>
(leaveM M RetK.can A (Res.ret (D.tup [])) x6.2))))))))
theorem b77 (M : Mode) (call : CallT) (dcall : DcallT) (a0 a1 : D) (A : St) : bodyN M Tryz.prog rxHint kk call dcall 77 [a0, a1] A = f77 M call dcall a0.canon a1.canon A := by
  kernel_rfl
noncomputable def f78_s0 (M : Mode) (call : CallT) (dcall : DcallT) (A : St) (e : Env) (Av5 : St) : (Option ((Env × St) ⊕ (Res × St))) :=
(bn (lenStrO (e.g 3)) fun x0 =>
(bn (binO .lss 3 false (e.g 4) x0) fun x1 =>
(bn (guardB true x1) fun x2 =>
(bn (ifb x2 (some (e.g 3))
(some (D.tup []))) fun x3 =>
(bn (guardB true x1) fun x4 =>
(bn (ifb x4 (some (e.g 4))
(some (D.tup []))) fun x5 =>
(bn (guardB true x1) fun x6 =>
(bn (ifb x6 (indexStrO x3 x5)
(some (D.tup []))) fun x7 =>
(bn (guardB true x1) fun x8 =>
(bn (ifb x8 (call 61 [x7] Av5)
(some ((Res.ret (D.tup [])), Av5))) fun x9 =>
(Res.elim x9.1 (fun x10 => (bn (mp (D.bool? x1) fun x11 => (ifb x11 x10
(D.bool false))) fun x11 =>
(bn (guardB true x11) fun x12 =>
(bn (ifb x12 (some (e.g 3))
(some (D.tup []))) fun x13 =>
(bn (guardB true x11) fun x14 =>
(bn (ifb x14 (some (e.g 4))
(some (D.tup []))) fun x15 =>
(bn (guardB true x11) fun x16 =>
(bn (ifb x16 (sliceStrO x13 (some x15) none none)
(some (D.tup []))) fun x17 =>
(bn (guardB true x11) fun x18 =>
(bn (ifb x18 (call 96 [x17, (D.str [(45 : UInt8), (62 : UInt8)])] x9.2)
(some ((Res.ret (D.tup [])), x9.2))) fun x19 =>
(Res.elim x19.1 (fun x20 => (bn (guardB true x11) fun x21 =>
(bn (ifb x21 (unD UnOp.not x20)
(some (D.tup []))) fun x22 =>
(bn (mp (D.bool? x11) fun x23 => (ifb x23 x22
(D.bool false))) fun x23 =>
(bn (D.bool? x23) fun x24 =>
(ifb x24 (bn (binO .add 3 true (e.g 4) (n64 1)) fun x25 =>
(@Mode.gk M ((Env × St) ⊕ (Res × St)) Av5 x19.2 (some (Sum.inl ((Env.mk (sp [(3, (D.shut (List.length Av5) (e.g 3))), (0, (D.shut (List.length Av5) x25))] 42) (List.map (fun (x26 : (D × (List D))) => ((D.shut (List.length Av5) x26.1), (D.shutL (List.length Av5) x26.2))) (e).df)), (List.take (List.length Av5) x19.2))))))
(Option.map (Sum.inr ) (bn (leavesD dcall (fun (x25 : St) => (some (e.g 4))) (e).df none x19.2) fun x25 =>
(leaveM M RetK.can A x25.1 x25.2))))))))) (fun x20 => (Option.map (Sum.inr ) (bn (leavesD dcall (fun (x21 : St) => (some (e.g 2))) (e).df (some x20) x19.2) fun x21 =>
(leaveM M RetK.can A x21.1 x21.2))))))))))))))) (fun x10 => (Option.map (Sum.inr ) (bn (leavesD dcall (fun (x11 : St) => (some (e.g 2))) (e).df (some x10) x9.2) fun x11 =>
(leaveM M RetK.can A x11.1 x11.2)))))))))))))))
noncomputable def f78 (M : Mode) (call : CallT) (dcall : DcallT) (a0 : D) (A : St) : (Option (Res × St)) :=
(bn (nilCheckD a0) fun x0 =>
(bn (fieldAddrO 2 x0) fun x1 =>
(bn (mp (mp (loadO false 1 x1 A) fun x2 => (x2, A)) fun x2 => x2.1) fun x2 =>
(bn (nilCheckD a0) fun x3 =>
(bn (fieldAddrO 0 x3) fun x4 =>
(bn (fieldAddrO 1 x4) fun x5 =>
(bn (mp (mp (loadO false 1 x5 A) fun x6 => (x6, A)) fun x6 => x6.1) fun x6 =>
(bn (sliceStrO x2 (some x6) none none) fun x7 =>
(@Mode.gs M (Res × St) True true (bn (lenStrO x7) fun x8 =>
(bn (binO .gtr 3 true x8 (n64 1)) fun x9 =>
(bn (guardB true x9) fun x10 =>
(bn (ifb x10 (some x7)
(some (D.tup []))) fun x11 =>
(bn (guardB true x9) fun x12 =>
(bn (ifb x12 (sliceStrO x11 none (some (n64 2)) none)
(some (D.tup []))) fun x13 =>
(bn (guardB true x9) fun x14 =>
(bn (ifb x14 (call 94 [x13] A)
(some ((Res.ret (D.tup [])), A))) fun x15 =>
(Res.elim x15.1 (fun x16 => (bn (mp (D.bool? x9) fun x17 => (ifb x17 x16
(D.bool false))) fun x17 =>
(bn (D.bool? x17) fun x18 =>
(ifb x18 (leaveM M RetK.can A (Res.ret (n64 2)) x15.2)
(bn (indexStrO x7 (n64 0)) fun x19 =>
(bn (call 95 [(D.str [(40 : UInt8), (41 : UInt8), (44 : UInt8), (124 : UInt8), (42 : UInt8), (43 : UInt8), (63 : UInt8), (46 : UInt8), (36 : UInt8), (61 : UInt8), (60 : UInt8), (62 : UInt8)]), x19] x15.2) fun x20 =>
(Res.elim x20.1 (fun x21 => (bn (binO .geq 3 true x21 (n64 0)) fun x22 =>
(bn (D.bool? x22) fun x23 =>
(ifb x23 (leaveM M RetK.can A (Res.ret (n64 1)) x20.2)
(@Mode.it M (Res × St) (f78_s0 M call dcall A) (Env.mk (sp [(3, x7), (0, (n64 0))] 42) []) x20.2))))) (fun x21 => (leaveM M RetK.can A (Res.pan x21) x20.2))))))))) (fun x16 => (leaveM M RetK.can A (Res.pan x16) x15.2))))))))))))))))))))
theorem b78 (M : Mode) (call : CallT) (dcall : DcallT) (a0 : D) (A : St) : bodyN M Tryz.prog rxHint kk call dcall 78 [a0] A = f78 M call dcall a0.canon A := by
  kernel_rfl
noncomputable def f79_s0 (M : Mode) (call : CallT) (dcall : DcallT) (A : St) (e : Env) (Av5 : St) : (Option ((Env × St) ⊕ (Res × St))) :=
(bn (call 43 [(e.g 4)] Av5) fun x0 =>
(Res.elim x0.1 (fun x1 => (bn (guardB false x1) fun x2 =>
(bn (ifb x2 (some (e.g 4))
(some (D.tup []))) fun x3 =>
(bn (guardB false x1) fun x4 =>
(bn (ifb x4 (binO .eql 3 true x3 (D.str [(36 : UInt8)]))
(some (D.tup []))) fun x5 =>
(bn (mp (D.bool? x1) fun x6 => (ifb x6 (D.bool true)
 x5)) fun x6 =>
(bn (guardB false x6) fun x7 =>
(bn (ifb x7 (some (e.g 4))
(some (D.tup []))) fun x8 =>
(bn (guardB false x6) fun x9 =>
(bn (ifb x9 (binO .eql 3 true x8 (D.str [(46 : UInt8)]))
(some (D.tup []))) fun x10 =>
(bn (mp (D.bool? x6) fun x11 => (ifb x11 (D.bool true)
 x10)) fun x11 =>
(bn (guardB false x11) fun x12 =>
(bn (ifb x12 (some (e.g 4))
(some (D.tup []))) fun x13 =>
(bn (guardB false x11) fun x14 =>
(bn (ifb x14 (binO .eql 3 true x13 (D.str [(40 : UInt8)]))
(some (D.tup []))) fun x15 =>
(bn (mp (D.bool? x11) fun x16 => (ifb x16 (D.bool true)
 x15)) fun x16 =>
(bn (D.bool? x16) fun x17 =>
(ifb x17 (bn (call 97 [(e.g 0)] x0.2) fun x18 =>
(Res.elim x18.1 (fun x19 => (bn (mp (Option.map (D.sl Own.full 3) (sliceParts 3 true 0 [(0, x19)])) fun x20 => (x20, x18.2)) fun x20 =>
(bn (appendO 3 48 (e.g 3) x20.1 x20.2) fun x21 =>
(bn (nilCheckD (e.g 0)) fun x22 =>
(bn (fieldAddrO 0 x22) fun x23 =>
(bn (call 98 [x23] x21.2) fun x24 =>
(Res.elim x24.1 (fun x25 => (some (Sum.inl ((Env.mk (sp [(0, (e.g 0)), (1, (e.g 2)), (0, x21.1), (0, x25)] 38) (e).df), x24.2)))) (fun x25 => (Option.map (Sum.inr ) (bn (leavesD dcall (fun (x26 : St) => (Option.map packD (Option.bind (loadO true 3 (e.g 2) x26) (fun x27 => (some [x27]))))) (e).df (some x25) x24.2) fun x26 =>
(leaveM M RetK.can A x26.1 x26.2))))))))))) (fun x19 => (Option.map (Sum.inr ) (bn (leavesD dcall (fun (x20 : St) => (Option.map packD (Option.bind (loadO true 3 (e.g 2) x20) (fun x21 => (some [x21]))))) (e).df (some x19) x18.2) fun x20 =>
(leaveM M RetK.can A x20.1 x20.2))))))
(Option.map (Sum.inr ) (bn (lenSlO (e.g 3)) fun x18 =>
(bn (binO .eql 3 true x18 (n64 1)) fun x19 =>
(bn (D.bool? x19) fun x20 =>
(ifb x20 (bn (indexAddrO 3 true (e.g 3) (n64 0)) fun x21 =>
(bn (mp (loadO true 3 x21 x0.2) fun x22 => (x22, x0.2)) fun x22 =>
(bn (mp (storeO true 3 (e.g 2) x22.1 x22.2) fun x23 => ((D.tup []), x23)) fun x23 =>
(bn (leavesD dcall (fun (x24 : St) => (Option.map packD (Option.bind (loadO true 3 (e.g 2) x24) (fun x25 => (some [x25]))))) (e).df none x23.2) fun x24 =>
(leaveM M RetK.can A x24.1 x24.2)))))
(bn (call 81 [(n64 4), (e.g 3)] x0.2) fun x21 =>
(Res.elim x21.1 (fun x22 => (bn (mp (storeO true 3 (e.g 2) x22 x21.2) fun x23 => ((D.tup []), x23)) fun x23 =>
(bn (leavesD dcall (fun (x24 : St) => (Option.map packD (Option.bind (loadO true 3 (e.g 2) x24) (fun x25 => (some [x25]))))) (e).df none x23.2) fun x24 =>
(leaveM M RetK.can A x24.1 x24.2)))) (fun x22 => (bn (leavesD dcall (fun (x23 : St) => (Option.map packD (Option.bind (loadO true 3 (e.g 2) x23) (fun x24 => (some [x24]))))) (e).df (some x22) x21.2) fun x23 =>
(leaveM M RetK.can A x23.1 x23.2)))))))))))))))))))))))))))) (fun x1 => (Option.map (Sum.inr ) (bn (leavesD dcall (fun (x2 : St) => (Option.map packD (Option.bind (loadO true 3 (e.g 2) x2) (fun x3 => (some [x3]))))) (e).df (some x1) x0.2) fun x2 =>
(leaveM M RetK.can A x2.1 x2.2))))))
noncomputable def f79 (M : Mode) (call : CallT) (dcall : DcallT) (a0 : D) (A : St) : (Option (Res × St)) :=
(bn (allocO [(n64 0), (D.str []), (D.sl Own.full 0 [])] A) fun x0 =>
(bn (call 97 [a0] x0.2) fun x1 =>
(Res.elim x1.1 (fun x2 => (bn (mp (Option.map (D.sl Own.full 3) (sliceParts 3 true 0 [(0, x2)])) fun x3 => (x3, x1.2)) fun x3 =>
(bn (nilCheckD a0) fun x4 =>
(bn (fieldAddrO 0 x4) fun x5 =>
(bn (call 98 [x5] x3.2) fun x6 =>
(Res.elim x6.1 (fun x7 => (@Mode.it M (Res × St) (f79_s0 M call dcall A) (Env.mk (sp [(0, a0), (1, x0.1), (0, x3.1), (0, x7)] 38) []) x6.2)) (fun x7 => (leaveM M RetK.can A (Res.pan x7) x6.2)))))))) (fun x2 => (leaveM M RetK.can A (Res.pan x2) x1.2)))))
theorem b79 (M : Mode) (call : CallT) (dcall : DcallT) (a0 : D) (A : St) : bodyN M Tryz.prog rxHint kk call dcall 79 [a0] A = f79 M call dcall a0.canon A := by
  kernel_rfl
noncomputable def f80 (M : Mode) (call : CallT) (dcall : DcallT) (a0 : D) (a1 : D) (A : St) : (Option (Res × St)) :=
(bn (call 98 [a0] A) fun x0 =>
(Res.elim x0.1 (fun x1 => (bn (binO .eql 3 true x1 (D.str [])) fun x2 =>
(bn (guardB false x2) fun x3 =>
(bn (ifb x3 (some a1)
(some (D.tup []))) fun x4 =>
(bn (guardB false x2) fun x5 =>
(bn (ifb x5 (some x1)
(some (D.tup []))) fun x6 =>
(bn (guardB false x2) fun x7 =>
(bn (ifb x7 (call 23 [x4, x6] x0.2)
(some ((Res.ret (D.tup [])), x0.2))) fun x8 =>
(Res.elim x8.1 (fun x9 => (bn (guardB false x2) fun x10 =>
(bn (ifb x10 (unD UnOp.not x9)
(some (D.tup []))) fun x11 =>
(bn (mp (D.bool? x2) fun x12 => (ifb x12 (D.bool true)
 x11)) fun x12 =>
(bn (D.bool? x12) fun x13 =>
(ifb x13 (leaveM M RetK.can A (Res.ret (D.tup [(D.str []), (D.bool false)])) x8.2)
(bn (nilCheckD a0) fun x14 =>
(bn (fieldAddrO 1 x14) fun x15 =>
(bn (mp (loadO false 1 x15 x8.2) fun x16 => (x16, x8.2)) fun x16 =>
(bn (binO .add 3 true x16.1 (n64 1)) fun x17 =>
(bn (nilCheckD a0) fun x18 =>
(bn (fieldAddrO 1 x18) fun x19 =>
(bn (mp (storeO false 1 x19 x17 x16.2) fun x20 => ((D.tup []), x20)) fun x20 =>
(leaveM M RetK.can A (Res.ret (D.tup [x1, (D.bool true)])) x20.2)))))))))))))) (fun x9 => (leaveM M RetK.can A (Res.pan x9) x8.2))))))))))) (fun x1 => (leaveM M RetK.can A (Res.pan x1) x0.2))))
theorem b80 (M : Mode) (call : CallT) (dcall : DcallT) (a0 a1 : D) (A : St) : bodyN M Tryz.prog rxHint kk call dcall 80 [a0, a1] A = f80 M call dcall a0.canon a1.canon A := by
  kernel_rfl
noncomputable def f81_s0 (M : Mode) (call : CallT) (dcall : DcallT) (A : St) (e : Env) (Av5 : St) : (Option ((Env × St) ⊕ (Res × St))) :=
(bn (binO .lss 3 false (e.g 10) (e.g 9)) fun x0 =>
(bn (D.bool? x0) fun x1 =>
(ifb x1 (bn (indexAddrO 3 true (e.g 8) (e.g 10)) fun x2 =>
(bn (mp (loadO true 3 x2 Av5) fun x3 => (x3, Av5)) fun x3 =>
(bn (allocO [(n64 0), (D.str []), (D.sl Own.full 0 [])] x3.2) fun x4 =>
(bn (mp (storeO true 3 x4.1 x3.1 x4.2) fun x5 => ((D.tup []), x5)) fun x5 =>
(bn (fieldAddrO 0 x4.1) fun x6 =>
(bn (mp (loadO false 1 x6 x5.2) fun x7 => (x7, x5.2)) fun x7 =>
(bn (binO .eql 3 false x7.1 (e.g 0)) fun x8 =>
(bn (D.bool? x8) fun x9 =>
(bn (ifb x9 (bn (fieldAddrO 2 x4.1) fun x10 =>
(bn (mp (loadO false 1 x10 x7.2) fun x11 => (x11, x7.2)) fun x11 =>
(bn (appendO 3 48 (e.g 5) x11.1 x11.2) fun x12 =>
(some (Sum.inl ((Env.mk (sp [(0, (e.g 0)), (3, (e.g 4)), (0, x12.1), (2, (e.g 8)), (0, (e.g 9)), (0, (e.g 10)), (14, (e.g 25))] 10) (e).df), x12.2))))))
(bn (mp (loadO true 3 x4.1 x7.2) fun x10 => (x10, x7.2)) fun x10 =>
(bn (mp (Option.map (D.sl Own.full 3) (sliceParts 3 true 0 [(0, x10.1)])) fun x11 => (x11, x10.2)) fun x11 =>
(bn (appendO 3 48 (e.g 5) x11.1 x11.2) fun x12 =>
(some (Sum.inl ((Env.mk (sp [(0, (e.g 0)), (3, (e.g 4)), (0, x12.1), (2, (e.g 8)), (0, (e.g 9)), (0, (e.g 10)), (14, x12.1)] 10) (e).df), x12.2))))))) fun x10 =>
(Sum.elim (fun (x11 : (Env × St)) => (bn (binO .add 3 true (x11.1.g 10) (n64 1)) fun x12 =>
(some (Sum.inl ((Env.mk (sp [(0, (x11.1.g 0)), (3, (x11.1.g 4)), (0, (x11.1.g 5)), (2, (x11.1.g 8)), (0, (x11.1.g 9)), (0, x12), (14, (x11.1.g 25))] 10) (x11.1).df), x11.2))))) (fun (x11 : ((Env × St) ⊕ (Res × St))) => (some x11)) x10))))))))))
(Option.map (Sum.inr ) (bn (lenSlO (e.g 5)) fun x2 =>
(bn (binO .eql 3 true x2 (n64 1)) fun x3 =>
(bn (D.bool? x3) fun x4 =>
(ifb x4 (bn (indexAddrO 3 true (e.g 5) (n64 0)) fun x5 =>
(bn (mp (loadO true 3 x5 Av5) fun x6 => (x6, Av5)) fun x6 =>
(bn (mp (storeO true 3 (e.g 4) x6.1 x6.2) fun x7 => ((D.tup []), x7)) fun x7 =>
(bn (leavesD dcall (fun (x8 : St) => (Option.map packD (Option.bind (loadO true 3 (e.g 4) x8) (fun x9 => (some [x9]))))) (e).df none x7.2) fun x8 =>
(leaveM M RetK.can A x8.1 x8.2)))))
(bn (Option.map D.agg (Option.bind (layCells false 1 0 [(n64 0), (D.str []), (D.sl Own.full 0 [])] (e.g 0)) (fun (x5 : (List D)) => (Option.bind (layCells false 1 2 x5 (e.g 5)) (fun (x6 : (List D)) => (some x6)))))) fun x5 =>
(bn (mp (storeO true 3 (e.g 4) x5 Av5) fun x6 => ((D.tup []), x6)) fun x6 =>
(bn (leavesD dcall (fun (x7 : St) => (Option.map packD (Option.bind (loadO true 3 (e.g 4) x7) (fun x8 => (some [x8]))))) (e).df none x6.2) fun x7 =>
(leaveM M RetK.can A x7.1 x7.2))))))))))))
noncomputable def f81 (M : Mode) (call : CallT) (dcall : DcallT) (a0 : D) (a1 : D) (A : St) : (Option (Res × St)) :=
(bn (allocO [(n64 0), (D.str []), (D.sl Own.full 0 [])] A) fun x0 =>
(bn (lenSlO a1) fun x1 =>
(@Mode.it M (Res × St) (f81_s0 M call dcall A) (Env.mk (sp [(0, a0), (3, x0.1), (0, (D.sl Own.full 0 [])), (2, a1), (0, x1), (0, (n64 0)), (14, (D.tup []))] 10) []) x0.2)))
theorem b81 (M : Mode) (call : CallT) (dcall : DcallT) (a0 a1 : D) (A : St) : bodyN M Tryz.prog rxHint kk call dcall 81 [a0, a1] A = f81 M call dcall a0.canon a1.canon A := by
  kernel_rfl
noncomputable def f83 (M : Mode) (call : CallT) (dcall : DcallT) (a0 : D) (A : St) : (Option (Res × St)) :=
(bn (binO .geq 3 true a0 (D.int IntKind.u8 (97 : Int))) fun x0 =>
(bn (guardB true x0) fun x1 =>
(bn (ifb x1 (some a0)
(some (D.tup []))) fun x2 =>
(bn (guardB true x0) fun x3 =>
(bn (ifb x3 (binO .leq 3 true x2 (D.int IntKind.u8 (122 : Int)))
(some (D.tup []))) fun x4 =>
(bn (mp (D.bool? x0) fun x5 => (ifb x5 x4
(D.bool false))) fun x5 =>
(bn (guardB false x5) fun x6 =>
(bn (ifb x6 (some a0)
(some (D.tup []))) fun x7 =>
(bn (guardB false x5) fun x8 =>
(bn (ifb x8 (binO .geq 3 true x7 (D.int IntKind.u8 (65 : Int)))
(some (D.tup []))) fun x9 =>
(bn (guardB false x5) fun x10 =>
(bn (ifb x10 (some x9)
(some (D.tup []))) fun x11 =>
(bn (guardB true x11) fun x12 =>
(bn (ifb x12 (some a0)
(some (D.tup []))) fun x13 =>
(bn (guardB true x11) fun x14 =>
(bn (ifb x14 (binO .leq 3 true x13 (D.int IntKind.u8 (90 : Int)))
(some (D.tup []))) fun x15 =>
(bn (guardB false x5) fun x16 =>
(bn (ifb x16 (mp (D.bool? x11) fun x17 => (ifb x17 x15
(D.bool false)))
(some (D.tup []))) fun x17 =>
(bn (mp (D.bool? x5) fun x18 => (ifb x18 (D.bool true)
 x17)) fun x18 =>
(bn (guardB false x18) fun x19 =>
(bn (ifb x19 (some a0)
(some (D.tup []))) fun x20 =>
(bn (guardB false x18) fun x21 =>
(bn (ifb x21 (call 84 [x20] A)
(some ((Res.ret (D.tup [])), A))) fun x22 =>
(Res.elim x22.1 (fun x23 => (bn (mp (D.bool? x18) fun x24 => (ifb x24 (D.bool true)
 x23)) fun x24 =>
(bn (guardB false x24) fun x25 =>
(bn (ifb x25 (some a0)
(some (D.tup []))) fun x26 =>
(bn (guardB false x24) fun x27 =>
(bn (ifb x27 (binO .eql 3 true x26 (D.int IntKind.u8 (95 : Int)))
(some (D.tup []))) fun x28 =>
(bn (mp (D.bool? x24) fun x29 => (ifb x29 (D.bool true)
 x28)) fun x29 =>
(bn (guardB false x29) fun x30 =>
(bn (ifb x30 (some a0)
(some (D.tup []))) fun x31 =>
(bn (guardB false x29) fun x32 =>
(bn (ifb x32 (binO .eql 3 true x31 (D.int IntKind.u8 (45 : Int)))
(some (D.tup []))) fun x33 =>
(bn (mp (D.bool? x29) fun x34 => (ifb x34 (D.bool true)
 x33)) fun x34 =>
(leaveM M RetK.can A (Res.ret x34) x22.2))))))))))))) (fun x23 => (leaveM M RetK.can A (Res.pan x23) x22.2))))))))))))))))))))))))))
theorem b83 (M : Mode) (call : CallT) (dcall : DcallT) (a0 : D) (A : St) : bodyN M Tryz.prog rxHint kk call dcall 83 [a0] A = f83 M call dcall a0.canon A := by
  kernel_rfl
theorem r83 (a0 : D) (A : St) : Run Tryz.prog rxA 83 [a0] A = f83 mL (Run Tryz.prog rxA) (Dcall Tryz.prog rxA) a0.canon A := (Run_eqN Tryz.prog rxA kk rfl rfl _ _).trans (b83 mL (Run Tryz.prog rxA) (Dcall Tryz.prog rxA) a0 A)
noncomputable def f84 (M : Mode) (call : CallT) (dcall : DcallT) (a0 : D) (A : St) : (Option (Res × St)) :=
(bn (binO .geq 3 true a0 (D.int IntKind.u8 (48 : Int))) fun x0 =>
(bn (guardB true x0) fun x1 =>
(bn (ifb x1 (some a0)
(some (D.tup []))) fun x2 =>
(bn (guardB true x0) fun x3 =>
(bn (ifb x3 (binO .leq 3 true x2 (D.int IntKind.u8 (57 : Int)))
(some (D.tup []))) fun x4 =>
(bn (mp (D.bool? x0) fun x5 => (ifb x5 x4
(D.bool false))) fun x5 =>
(leaveM M RetK.can A (Res.ret x5) A)))))))
theorem b84 (M : Mode) (call : CallT) (dcall : DcallT) (a0 : D) (A : St) : bodyN M Tryz.prog rxHint kk call dcall 84 [a0] A = f84 M call dcall a0.canon A := by
  kernel_rfl
theorem r84 (a0 : D) (A : St) : Run Tryz.prog rxA 84 [a0] A = f84 mL (Run Tryz.prog rxA) (Dcall Tryz.prog rxA) a0.canon A := (Run_eqN Tryz.prog rxA kk rfl rfl _ _).trans (b84 mL (Run Tryz.prog rxA) (Dcall Tryz.prog rxA) a0 A)
noncomputable def f91_s0 (M : Mode) (call : CallT) (dcall : DcallT) (A : St) (e : Env) (Av5 : St) : (Option ((Env × St) ⊕ (Res × St))) :=
(bn (mp (loadO false 1 (e.g 2) Av5) fun x0 => (x0, Av5)) fun x0 =>
(bn (lenStrO x0.1) fun x1 =>
(bn (binO .gtr 3 true x1 (n64 0)) fun x2 =>
(bn (D.bool? x2) fun x3 =>
(ifb x3 (bn (mp (loadO false 1 (e.g 2) x0.2) fun x4 => (x4, x0.2)) fun x4 =>
(bn (call 92 [x4.1] x4.2) fun x5 =>
(Res.elim x5.1 (fun x6 => (bn (extractD x6 0) fun x7 =>
(bn (extractD x6 1) fun x8 =>
(bn (mp (loadO false 1 (e.g 2) x5.2) fun x9 => (x9, x5.2)) fun x9 =>
(bn (sliceStrO x9.1 none (some x8) none) fun x10 =>
(bn (applyD call (e.g 0) [x10] x9.2) fun x11 =>
(Res.elim x11.1 (fun x12 => (bn (unD UnOp.not x12) fun x13 =>
(bn (D.bool? x13) fun x14 =>
(ifb x14 (Option.map (Sum.inr ) (bn (leavesD dcall (fun (x15 : St) => (some (D.tup []))) (e).df none x11.2) fun x15 =>
(leaveM M RetK.can A x15.1 x15.2)))
(bn (mp (loadO false 1 (e.g 2) x11.2) fun x15 => (x15, x11.2)) fun x15 =>
(bn (sliceStrO x15.1 (some x8) none none) fun x16 =>
(bn (mp (storeO false 1 (e.g 2) x16 x15.2) fun x17 => ((D.tup []), x17)) fun x17 =>
(@Mode.gk M ((Env × St) ⊕ (Res × St)) Av5 x17.2 (some (Sum.inl ((Env.mk (sp [(0, (D.shut (List.length Av5) (e.g 0))), (1, (D.shut (List.length Av5) (e.g 2)))] 49) (List.map (fun (x18 : (D × (List D))) => ((D.shut (List.length Av5) x18.1), (D.shutL (List.length Av5) x18.2))) (e).df)), (List.take (List.length Av5) x17.2)))))))))))) (fun x12 => (Option.map (Sum.inr ) (bn (leavesD dcall (fun (x13 : St) => (some (D.tup []))) (e).df (some x12) x11.2) fun x13 =>
(leaveM M RetK.can A x13.1 x13.2))))))))))) (fun x6 => (Option.map (Sum.inr ) (bn (leavesD dcall (fun (x7 : St) => (some (D.tup []))) (e).df (some x6) x5.2) fun x7 =>
(leaveM M RetK.can A x7.1 x7.2)))))))
(Option.map (Sum.inr ) (bn (leavesD dcall (fun (x4 : St) => (some (D.tup []))) (e).df none x0.2) fun x4 =>
(leaveM M RetK.can A x4.1 x4.2))))))))
noncomputable def f91_s1 (M : Mode) (call : CallT) (dcall : DcallT) (A : St) (e : Env) (Av5 : St) : (Option ((Env × St) ⊕ (Res × St))) :=
(bn (mp (loadO false 1 (e.g 2) Av5) fun x0 => (x0, Av5)) fun x0 =>
(bn (mp (loadO false 1 (e.g 1) x0.2) fun x1 => (x1, x0.2)) fun x1 =>
(bn (call 93 [x0.1, x1.1] x1.2) fun x2 =>
(Res.elim x2.1 (fun x3 => (bn (binO .lss 3 true x3 (n64 0)) fun x4 =>
(bn (D.bool? x4) fun x5 =>
(ifb x5 (Option.map (Sum.inr ) (bn (mp (loadO false 1 (e.g 2) x2.2) fun x6 => (x6, x2.2)) fun x6 =>
(bn (applyD call (e.g 0) [x6.1] x6.2) fun x7 =>
(Res.elim x7.1 (fun x8 => (bn (leavesD dcall (fun (x9 : St) => (some (D.tup []))) (e).df none x7.2) fun x9 =>
(leaveM M RetK.can A x9.1 x9.2))) (fun x8 => (bn (leavesD dcall (fun (x9 : St) => (some (D.tup []))) (e).df (some x8) x7.2) fun x9 =>
(leaveM M RetK.can A x9.1 x9.2)))))))
(bn (mp (loadO false 1 (e.g 2) x2.2) fun x6 => (x6, x2.2)) fun x6 =>
(bn (mp (loadO false 1 (e.g 3) x6.2) fun x7 => (x7, x6.2)) fun x7 =>
(bn (binO .add 3 false x3 x7.1) fun x8 =>
(bn (sliceStrO x6.1 none (some x8) none) fun x9 =>
(bn (applyD call (e.g 0) [x9] x7.2) fun x10 =>
(Res.elim x10.1 (fun x11 => (bn (unD UnOp.not x11) fun x12 =>
(bn (D.bool? x12) fun x13 =>
(ifb x13 (Option.map (Sum.inr ) (bn (leavesD dcall (fun (x14 : St) => (some (D.tup []))) (e).df none x10.2) fun x14 =>
(leaveM M RetK.can A x14.1 x14.2)))
(bn (mp (loadO false 1 (e.g 2) x10.2) fun x14 => (x14, x10.2)) fun x14 =>
(bn (mp (loadO false 1 (e.g 1) x14.2) fun x15 => (x15, x14.2)) fun x15 =>
(bn (lenStrO x15.1) fun x16 =>
(bn (binO .add 3 false x3 x16) fun x17 =>
(bn (sliceStrO x14.1 (some x17) none none) fun x18 =>
(bn (mp (storeO false 1 (e.g 2) x18 x15.2) fun x19 => ((D.tup []), x19)) fun x19 =>
(@Mode.gk M ((Env × St) ⊕ (Res × St)) Av5 x19.2 (some (Sum.inl ((Env.mk (sp [(0, (D.shut (List.length Av5) (e.g 0))), (0, (D.shut (List.length Av5) (e.g 1))), (0, (D.shut (List.length Av5) (e.g 2))), (0, (D.shut (List.length Av5) (e.g 3)))] 48) (List.map (fun (x20 : (D × (List D))) => ((D.shut (List.length Av5) x20.1), (D.shutL (List.length Av5) x20.2))) (e).df)), (List.take (List.length Av5) x19.2))))))))))))))) (fun x11 => (Option.map (Sum.inr ) (bn (leavesD dcall (fun (x12 : St) => (some (D.tup []))) (e).df (some x11) x10.2) fun x12 =>
(leaveM M RetK.can A x12.1 x12.2)))))))))))))) (fun x3 => (Option.map (Sum.inr ) (bn (leavesD dcall (fun (x4 : St) => (some (D.tup []))) (e).df (some x3) x2.2) fun x4 =>
(leaveM M RetK.can A x4.1 x4.2))))))))
noncomputable def f91 (M : Mode) (call : CallT) (dcall : DcallT) (a0 : D) (a1 : D) (a2 : D) (a3 : D) (A : St) : (Option (Res × St)) :=
(bn (mp (loadO false 1 a1 A) fun x0 => (x0, A)) fun x0 =>
(bn (lenStrO x0.1) fun x1 =>
(bn (binO .eql 3 true x1 (n64 0)) fun x2 =>
(bn (D.bool? x2) fun x3 =>
(ifb x3 (@Mode.it M (Res × St) (f91_s0 M call dcall A) (Env.mk (sp [(0, a0), (1, a2)] 49) []) x0.2)
(@Mode.it M (Res × St) (f91_s1 M call dcall A) (Env.mk (sp [(0, a0), (0, a1), (0, a2), (0, a3)] 48) []) x0.2))))))
theorem b91 (M : Mode) (call : CallT) (dcall : DcallT) (a0 a1 a2 a3 : D) (A : St) : bodyN M Tryz.prog rxHint kk call dcall 91 [a0, a1, a2, a3] A = f91 M call dcall a0.canon a1.canon a2.canon a3.canon A := by
  kernel_rfl
noncomputable def f92 (M : Mode) (call : CallT) (dcall : DcallT) (a0 : D) (A : St) : (Option (Res × St)) :=
(bn (binO .neq 3 true a0 (D.str [])) fun x0 =>
(bn (guardB true x0) fun x1 =>
(bn (ifb x1 (some a0)
(some (D.tup []))) fun x2 =>
(bn (guardB true x0) fun x3 =>
(bn (ifb x3 (indexStrO x2 (n64 0))
(some (D.tup []))) fun x4 =>
(bn (guardB true x0) fun x5 =>
(bn (ifb x5 (binO .lss 3 true x4 (D.int IntKind.u8 (128 : Int)))
(some (D.tup []))) fun x6 =>
(bn (mp (D.bool? x0) fun x7 => (ifb x7 x6
(D.bool false))) fun x7 =>
(bn (D.bool? x7) fun x8 =>
(ifb x8 (bn (indexStrO a0 (n64 0)) fun x9 =>
(bn (convO (ConvK.int IntKind.i32) x9) fun x10 =>
(leaveM M RetK.can A (Res.ret (D.tup [x10, (n64 1)])) A)))
(bn (call 100 [a0] A) fun x9 =>
(Res.elim x9.1 (fun x10 => (bn (extractD x10 0) fun x11 =>
(bn (extractD x10 1) fun x12 =>
(leaveM M RetK.can A (Res.ret (D.tup [x11, x12])) x9.2)))) (fun x10 => (leaveM M RetK.can A (Res.pan x10) x9.2))))))))))))))
theorem b92 (M : Mode) (call : CallT) (dcall : DcallT) (a0 : D) (A : St) : bodyN M Tryz.prog rxHint kk call dcall 92 [a0] A = f92 M call dcall a0.canon A := by
  kernel_rfl
noncomputable def f93 (M : Mode) (call : CallT) (dcall : DcallT) (a0 : D) (a1 : D) (A : St) : (Option (Res × St)) :=
(bn (call 101 [a0, a1] A) fun x0 =>
(Res.elim x0.1 (fun x1 => (leaveM M RetK.can A (Res.ret x1) x0.2)) (fun x1 => (leaveM M RetK.can A (Res.pan x1) x0.2))))
theorem b93 (M : Mode) (call : CallT) (dcall : DcallT) (a0 a1 : D) (A : St) : bodyN M Tryz.prog rxHint kk call dcall 93 [a0, a1] A = f93 M call dcall a0.canon a1.canon A := by
  kernel_rfl
noncomputable def f94 (M : Mode) (call : CallT) (dcall : DcallT) (a0 : D) (A : St) : (Option (Res × St)) :=
(bn (binO .eql 3 true a0 (D.str [(61 : UInt8), (61 : UInt8)])) fun x0 =>
(bn (guardB false x0) fun x1 =>
(bn (ifb x1 (some a0)
(some (D.tup []))) fun x2 =>
(bn (guardB false x0) fun x3 =>
(bn (ifb x3 (binO .eql 3 true x2 (D.str [(60 : UInt8), (61 : UInt8)]))
(some (D.tup []))) fun x4 =>
(bn (mp (D.bool? x0) fun x5 => (ifb x5 (D.bool true)
 x4)) fun x5 =>
(bn (guardB false x5) fun x6 =>
(bn (ifb x6 (some a0)
(some (D.tup []))) fun x7 =>
(bn (guardB false x5) fun x8 =>
(bn (ifb x8 (binO .eql 3 true x7 (D.str [(62 : UInt8), (61 : UInt8)]))
(some (D.tup []))) fun x9 =>
(bn (mp (D.bool? x5) fun x10 => (ifb x10 (D.bool true)
 x9)) fun x10 =>
(bn (guardB false x10) fun x11 =>
(bn (ifb x11 (some a0)
(some (D.tup []))) fun x12 =>
(bn (guardB false x10) fun x13 =>
(bn (ifb x13 (binO .eql 3 true x12 (D.str [(45 : UInt8), (62 : UInt8)]))
(some (D.tup []))) fun x14 =>
(bn (mp (D.bool? x10) fun x15 => (ifb x15 (D.bool true)
 x14)) fun x15 =>
(leaveM M RetK.can A (Res.ret x15) A)))))))))))))))))
theorem b94 (M : Mode) (call : CallT) (dcall : DcallT) (a0 : D) (A : St) : bodyN M Tryz.prog rxHint kk call dcall 94 [a0] A = f94 M call dcall a0.canon A := by
  kernel_rfl
noncomputable def f95 (M : Mode) (call : CallT) (dcall : DcallT) (a0 : D) (a1 : D) (A : St) : (Option (Res × St)) :=
(bn (call 102 [a0, a1] A) fun x0 =>
(Res.elim x0.1 (fun x1 => (leaveM M RetK.can A (Res.ret x1) x0.2)) (fun x1 => (leaveM M RetK.can A (Res.pan x1) x0.2))))
theorem b95 (M : Mode) (call : CallT) (dcall : DcallT) (a0 a1 : D) (A : St) : bodyN M Tryz.prog rxHint kk call dcall 95 [a0, a1] A = f95 M call dcall a0.canon a1.canon A := by
  kernel_rfl
noncomputable def f96 (M : Mode) (call : CallT) (dcall : DcallT) (a0 : D) (a1 : D) (A : St) : (Option (Res × St)) :=
(bn (call 103 [a0, a1] A) fun x0 =>
(Res.elim x0.1 (fun x1 => (leaveM M RetK.can A (Res.ret x1) x0.2)) (fun x1 => (leaveM M RetK.can A (Res.pan x1) x0.2))))
theorem b96 (M : Mode) (call : CallT) (dcall : DcallT) (a0 a1 : D) (A : St) : bodyN M Tryz.prog rxHint kk call dcall 96 [a0, a1] A = f96 M call dcall a0.canon a1.canon A := by
  kernel_rfl
noncomputable def f97_s0 (M : Mode) (call : CallT) (dcall : DcallT) (A : St) (e : Env) (Av5 : St) : (Option ((Env × St) ⊕ (Res × St))) :=
(bn (nilCheckD (e.g 0)) fun x0 =>
(bn (fieldAddrO 0 x0) fun x1 =>
(bn (mp (Option.map (D.sl Own.full 1) (sliceParts 1 false 0 [(0, (D.str [(42 : UInt8)])), (1, (D.str [(43 : UInt8)])), (2, (D.str [(63 : UInt8)]))])) fun x2 => (x2, Av5)) fun x2 =>
(bn (call 80 [x1, x2.1] x2.2) fun x3 =>
(Res.elim x3.1 (fun x4 => (bn (extractD x4 0) fun x5 =>
(bn (extractD x4 1) fun x6 =>
(bn (unD UnOp.not x6) fun x7 =>
(bn (D.bool? x7) fun x8 =>
(ifb x8 (bn (mp (loadO true 3 (e.g 3) x3.2) fun x9 => (x9, x3.2)) fun x9 =>
(bn (mp (storeO true 3 (e.g 2) x9.1 x9.2) fun x10 => ((D.tup []), x10)) fun x10 =>
(Option.map (Sum.inr ) (bn (leavesD dcall (fun (x11 : St) => (Option.map packD (Option.bind (loadO true 3 (e.g 2) x11) (fun x12 => (some [x12]))))) (e).df none x10.2) fun x11 =>
(leaveM M RetK.can A x11.1 x11.2)))))
(bn (binO .eql 3 true x5 (D.str [(43 : UInt8)])) fun x9 =>
(bn (D.bool? x9) fun x10 =>
(bn (ifb x10 (some (Sum.inl ((Env.mk (sp [(0, (e.g 0)), (1, (e.g 2)), (0, (e.g 3)), (2, (n64 7))] 22) (e).df), x3.2)))
(bn (binO .eql 3 true x5 (D.str [(63 : UInt8)])) fun x11 =>
(bn (D.bool? x11) fun x12 =>
(bn (ifb x12 (some (Sum.inl ((Env.mk (sp [(0, (e.g 0)), (1, (e.g 2)), (0, (e.g 3)), (2, (n64 8))] 22) (e).df), x3.2)))
(some (Sum.inl ((Env.mk (sp [(0, (e.g 0)), (1, (e.g 2)), (0, (e.g 3)), (2, (n64 6))] 22) (e).df), x3.2)))) fun x13 =>
(Sum.elim (fun (x14 : (Env × St)) => (some (Sum.inl ((Env.mk (sp [(0, (x14.1.g 0)), (1, (x14.1.g 2)), (0, (x14.1.g 3)), (2, (x14.1.g 6))] 22) (x14.1).df), x14.2)))) (fun (x14 : ((Env × St) ⊕ ((Env × St) ⊕ (Res × St)))) => (some x14)) x13))))) fun x11 =>
(Sum.elim (fun (x12 : (Env × St)) => (bn (mp (loadO true 3 (x12.1.g 3) x12.2) fun x13 => (x13, x12.2)) fun x13 =>
(bn (mp (Option.map (D.sl Own.full 3) (sliceParts 3 true 0 [(0, x13.1)])) fun x14 => (x14, x13.2)) fun x14 =>
(bn (Option.map D.agg (Option.bind (layCells false 1 0 [(n64 0), (D.str []), (D.sl Own.full 0 [])] (x12.1.g 6)) (fun (x15 : (List D)) => (Option.bind (layCells false 1 2 x15 x14.1) (fun (x16 : (List D)) => (some x16)))))) fun x15 =>
(bn (mp (storeO true 3 (x12.1.g 3) x15 x14.2) fun x16 => ((D.tup []), x16)) fun x16 =>
(@Mode.gk M ((Env × St) ⊕ (Res × St)) Av5 x16.2 (some (Sum.inl ((Env.mk (sp [(0, (D.shut (List.length Av5) (x12.1.g 0))), (1, (D.shut (List.length Av5) (x12.1.g 2))), (0, (D.shut (List.length Av5) (x12.1.g 3))), (21, (D.shut (List.length Av5) (x12.1.g 6)))] 3) (List.map (fun (x17 : (D × (List D))) => ((D.shut (List.length Av5) x17.1), (D.shutL (List.length Av5) x17.2))) (x12.1).df)), (List.take (List.length Av5) x16.2)))))))))) (fun (x12 : ((Env × St) ⊕ (Res × St))) => (some x12)) x11)))))))))) (fun x4 => (Option.map (Sum.inr ) (bn (leavesD dcall (fun (x5 : St) => (Option.map packD (Option.bind (loadO true 3 (e.g 2) x5) (fun x6 => (some [x6]))))) (e).df (some x4) x3.2) fun x5 =>
(leaveM M RetK.can A x5.1 x5.2)))))))))
noncomputable def f97 (M : Mode) (call : CallT) (dcall : DcallT) (a0 : D) (A : St) : (Option (Res × St)) :=
(bn (allocO [(n64 0), (D.str []), (D.sl Own.full 0 [])] A) fun x0 =>
(bn (call 104 [a0] x0.2) fun x1 =>
(Res.elim x1.1 (fun x2 => (bn (allocO [(n64 0), (D.str []), (D.sl Own.full 0 [])] x1.2) fun x3 =>
(bn (mp (storeO true 3 x3.1 x2 x3.2) fun x4 => ((D.tup []), x4)) fun x4 =>
(@Mode.it M (Res × St) (f97_s0 M call dcall A) (Env.mk (sp [(0, a0), (1, x0.1), (0, x3.1), (21, (D.tup []))] 3) []) x4.2)))) (fun x2 => (leaveM M RetK.can A (Res.pan x2) x1.2)))))
theorem b97 (M : Mode) (call : CallT) (dcall : DcallT) (a0 : D) (A : St) : bodyN M Tryz.prog rxHint kk call dcall 97 [a0] A = f97 M call dcall a0.canon A := by
  kernel_rfl
noncomputable def f98 (M : Mode) (call : CallT) (dcall : DcallT) (a0 : D) (A : St) : (Option (Res × St)) :=
(bn (nilCheckD a0) fun x0 =>
(bn (fieldAddrO 1 x0) fun x1 =>
(bn (mp (mp (loadO false 1 x1 A) fun x2 => (x2, A)) fun x2 => x2.1) fun x2 =>
(bn (nilCheckD a0) fun x3 =>
(bn (fieldAddrO 0 x3) fun x4 =>
(bn (mp (mp (loadO false 1 x4 A) fun x5 => (x5, A)) fun x5 => x5.1) fun x5 =>
(bn (lenSlO x5) fun x6 =>
(bn (binO .lss 3 false x2 x6) fun x7 =>
(@Mode.gs M (Res × St) True true (bn (D.bool? x7) fun x8 =>
(ifb x8 (bn (nilCheckD a0) fun x9 =>
(bn (fieldAddrO 0 x9) fun x10 =>
(bn (mp (mp (loadO false 1 x10 A) fun x11 => (x11, A)) fun x11 => x11.1) fun x11 =>
(bn (nilCheckD a0) fun x12 =>
(bn (fieldAddrO 1 x12) fun x13 =>
(bn (mp (mp (loadO false 1 x13 A) fun x14 => (x14, A)) fun x14 => x14.1) fun x14 =>
(bn (indexAddrO 3 true x11 x14) fun x15 =>
(bn (fieldAddrO 0 x15) fun x16 =>
(bn (mp (mp (loadO false 1 x16 A) fun x17 => (x17, A)) fun x17 => x17.1) fun x17 =>
(@Mode.gs M (Res × St) True true (leaveM M RetK.can A (Res.ret x17) A)))))))))))
(leaveM M RetK.can A (Res.ret (D.str [])) A))))))))))))
theorem b98 (M : Mode) (call : CallT) (dcall : DcallT) (a0 : D) (A : St) : bodyN M Tryz.prog rxHint kk call dcall 98 [a0] A = f98 M call dcall a0.canon A := by
  kernel_rfl
noncomputable def f101_s0 (M : Mode) (call : CallT) (dcall : DcallT) (A : St) (e : Env) (Av5 : St) : (Option ((Env × St) ⊕ (Res × St))) :=
(bn (binO .lss 3 false (e.g 8) (e.g 9)) fun x0 =>
(bn (D.bool? x0) fun x1 =>
(ifb x1 (bn (indexStrO (e.g 0) (e.g 8)) fun x2 =>
(bn (binO .neq 3 false x2 (e.g 6)) fun x3 =>
(bn (D.bool? x3) fun x4 =>
(bn (ifb x4 (bn (binO .add 3 true (e.g 8) (n64 1)) fun x5 =>
(bn (sliceStrO (e.g 0) (some x5) (some (e.g 9)) none) fun x6 =>
(bn (call 102 [x6, (e.g 6)] Av5) fun x7 =>
(Res.elim x7.1 (fun x8 => (bn (binO .lss 3 true x8 (n64 0)) fun x9 =>
(bn (D.bool? x9) fun x10 =>
(ifb x10 (Option.map (Sum.inr ) (Option.map (Sum.inr ) (bn (leavesD dcall (fun (x11 : St) => (some (n64 (-1)))) (e).df none x7.2) fun x11 =>
(leaveM M RetK.can A x11.1 x11.2))))
(bn (binO .add 3 true x8 (n64 1)) fun x11 =>
(bn (binO .add 3 false (e.g 8) x11) fun x12 =>
(some (Sum.inl ((Env.mk (sp [(0, (e.g 0)), (0, (e.g 1)), (3, (e.g 5)), (0, (e.g 6)), (0, (e.g 7)), (0, x12), (0, (e.g 9)), (0, (e.g 10))] 132) (e).df), x7.2))))))))) (fun x8 => (Option.map (Sum.inr ) (Option.map (Sum.inr ) (bn (leavesD dcall (fun (x9 : St) => (some (e.g 4))) (e).df (some x8) x7.2) fun x9 =>
(leaveM M RetK.can A x9.1 x9.2)))))))))
(some (Sum.inl ((Env.mk (sp [(0, (e.g 0)), (0, (e.g 1)), (3, (e.g 5)), (0, (e.g 6)), (0, (e.g 7)), (0, (e.g 8)), (0, (e.g 9)), (0, (e.g 10))] 132) (e).df), Av5)))) fun x5 =>
(Sum.elim (fun (x6 : (Env × St)) => (bn (binO .add 3 true (x6.1.g 8) (n64 1)) fun x7 =>
(bn (indexStrO (x6.1.g 0) x7) fun x8 =>
(bn (binO .eql 3 false x8 (x6.1.g 7)) fun x9 =>
(bn (guardB true x9) fun x10 =>
(bn (ifb x10 (some (x6.1.g 0))
(some (D.tup []))) fun x11 =>
(bn (guardB true x9) fun x12 =>
(bn (ifb x12 (some (x6.1.g 8))
(some (D.tup []))) fun x13 =>
(bn (guardB true x9) fun x14 =>
(bn (ifb x14 (some (x6.1.g 8))
(some (D.tup []))) fun x15 =>
(bn (guardB true x9) fun x16 =>
(bn (ifb x16 (some (x6.1.g 5))
(some (D.tup []))) fun x17 =>
(bn (guardB true x9) fun x18 =>
(bn (ifb x18 (binO .add 3 false x15 x17)
(some (D.tup []))) fun x19 =>
(bn (guardB true x9) fun x20 =>
(bn (ifb x20 (sliceStrO x11 (some x13) (some x19) none)
(some (D.tup []))) fun x21 =>
(bn (guardB true x9) fun x22 =>
(bn (ifb x22 (some (x6.1.g 1))
(some (D.tup []))) fun x23 =>
(bn (guardB true x9) fun x24 =>
(bn (ifb x24 (binO .eql 3 false x21 x23)
(some (D.tup []))) fun x25 =>
(bn (mp (D.bool? x9) fun x26 => (ifb x26 x25
(D.bool false))) fun x26 =>
(bn (D.bool? x26) fun x27 =>
(ifb x27 (Option.map (Sum.inr ) (bn (leavesD dcall (fun (x28 : St) => (some (x6.1.g 8))) (x6.1).df none x6.2) fun x28 =>
(leaveM M RetK.can A x28.1 x28.2)))
(bn (binO .add 3 true (x6.1.g 8) (n64 1)) fun x28 =>
(bn (binO .add 3 true (x6.1.g 10) (n64 1)) fun x29 =>
(bn (mp (loadO false 1 D.any x6.2) fun x30 => (x30, x6.2)) fun x30 =>
(bn (binO .leq 3 false (x6.1.g 5) x30.1) fun x31 =>
(bn (guardB true x31) fun x32 =>
(bn (ifb x32 (some x29)
(some (D.tup []))) fun x33 =>
(bn (guardB true x31) fun x34 =>
(bn (ifb x34 (some x28)
(some (D.tup []))) fun x35 =>
(bn (guardB true x31) fun x36 =>
(bn (ifb x36 (call 106 [x35] x30.2)
(some ((Res.ret (D.tup [])), x30.2))) fun x37 =>
(Res.elim x37.1 (fun x38 => (bn (guardB true x31) fun x39 =>
(bn (ifb x39 (binO .gtr 3 false x33 x38)
(some (D.tup []))) fun x40 =>
(bn (mp (D.bool? x31) fun x41 => (ifb x41 x40
(D.bool false))) fun x41 =>
(bn (D.bool? x41) fun x42 =>
(ifb x42 (bn (sliceStrO (x6.1.g 0) (some x28) none none) fun x43 =>
(bn (call 105 [x43, (x6.1.g 1)] x37.2) fun x44 =>
(Res.elim x44.1 (fun x45 => (bn (binO .geq 3 true x45 (n64 0)) fun x46 =>
(bn (D.bool? x46) fun x47 =>
(ifb x47 (bn (binO .add 3 false x45 x28) fun x48 =>
(Option.map (Sum.inr ) (bn (leavesD dcall (fun (x49 : St) => (some x48)) (x6.1).df none x44.2) fun x49 =>
(leaveM M RetK.can A x49.1 x49.2))))
(Option.map (Sum.inr ) (bn (leavesD dcall (fun (x48 : St) => (some (n64 (-1)))) (x6.1).df none x44.2) fun x48 =>
(leaveM M RetK.can A x48.1 x48.2))))))) (fun x45 => (Option.map (Sum.inr ) (bn (leavesD dcall (fun (x46 : St) => (some (x6.1.g 4))) (x6.1).df (some x45) x44.2) fun x46 =>
(leaveM M RetK.can A x46.1 x46.2)))))))
(bn (mp (loadO false 1 D.any x37.2) fun x43 => (x43, x37.2)) fun x43 =>
(bn (binO .gtr 3 false (x6.1.g 5) x43.1) fun x44 =>
(bn (guardB true x44) fun x45 =>
(bn (ifb x45 (some x29)
(some (D.tup []))) fun x46 =>
(bn (guardB true x44) fun x47 =>
(bn (ifb x47 (some x28)
(some (D.tup []))) fun x48 =>
(bn (guardB true x44) fun x49 =>
(bn (ifb x49 (binO .shr 3 true x48 (D.int IntKind.u64 (4 : Int)))
(some (D.tup []))) fun x50 =>
(bn (guardB true x44) fun x51 =>
(bn (ifb x51 (binO .add 3 true (n64 4) x50)
(some (D.tup []))) fun x52 =>
(bn (guardB true x44) fun x53 =>
(bn (ifb x53 (binO .geq 3 false x46 x52)
(some (D.tup []))) fun x54 =>
(bn (mp (D.bool? x44) fun x55 => (ifb x55 x54
(D.bool false))) fun x55 =>
(bn (guardB true x55) fun x56 =>
(bn (ifb x56 (some x28)
(some (D.tup []))) fun x57 =>
(bn (guardB true x55) fun x58 =>
(bn (ifb x58 (some (x6.1.g 9))
(some (D.tup []))) fun x59 =>
(bn (guardB true x55) fun x60 =>
(bn (ifb x60 (binO .lss 3 false x57 x59)
(some (D.tup []))) fun x61 =>
(bn (mp (D.bool? x55) fun x62 => (ifb x62 x61
(D.bool false))) fun x62 =>
(bn (D.bool? x62) fun x63 =>
(ifb x63 (bn (sliceStrO (x6.1.g 0) (some x28) none none) fun x64 =>
(bn (call 107 [x64, (x6.1.g 1)] x43.2) fun x65 =>
(Res.elim x65.1 (fun x66 => (bn (binO .lss 3 true x66 (n64 0)) fun x67 =>
(bn (D.bool? x67) fun x68 =>
(ifb x68 (Option.map (Sum.inr ) (bn (leavesD dcall (fun (x69 : St) => (some (n64 (-1)))) (x6.1).df none x65.2) fun x69 =>
(leaveM M RetK.can A x69.1 x69.2)))
(bn (binO .add 3 false x28 x66) fun x69 =>
(Option.map (Sum.inr ) (bn (leavesD dcall (fun (x70 : St) => (some x69)) (x6.1).df none x65.2) fun x70 =>
(leaveM M RetK.can A x70.1 x70.2)))))))) (fun x66 => (Option.map (Sum.inr ) (bn (leavesD dcall (fun (x67 : St) => (some (x6.1.g 4))) (x6.1).df (some x66) x65.2) fun x67 =>
(leaveM M RetK.can A x67.1 x67.2)))))))
(@Mode.gk M ((Env × St) ⊕ (Res × St)) Av5 x43.2 (some (Sum.inl ((Env.mk (sp [(0, (D.shut (List.length Av5) (x6.1.g 0))), (0, (D.shut (List.length Av5) (x6.1.g 1))), (3, (D.shut (List.length Av5) (x6.1.g 5))), (0, (D.shut (List.length Av5) (x6.1.g 6))), (0, (D.shut (List.length Av5) (x6.1.g 7))), (0, (D.shut (List.length Av5) x28)), (0, (D.shut (List.length Av5) (x6.1.g 9))), (0, (D.shut (List.length Av5) x29))] 132) (List.map (fun (x64 : (D × (List D))) => ((D.shut (List.length Av5) x64.1), (D.shutL (List.length Av5) x64.2))) (x6.1).df)), (List.take (List.length Av5) x43.2))))))))))))))))))))))))))))))))) (fun x38 => (Option.map (Sum.inr ) (bn (leavesD dcall (fun (x39 : St) => (some (x6.1.g 4))) (x6.1).df (some x38) x37.2) fun x39 =>
(leaveM M RetK.can A x39.1 x39.2)))))))))))))))))))))))))))))))))))))) (fun (x6 : ((Env × St) ⊕ (Res × St))) => (some x6)) x5)))))
(Option.map (Sum.inr ) (bn (leavesD dcall (fun (x2 : St) => (some (n64 (-1)))) (e).df none Av5) fun x2 =>
(leaveM M RetK.can A x2.1 x2.2))))))
noncomputable def f101 (M : Mode) (call : CallT) (dcall : DcallT) (a0 : D) (a1 : D) (A : St) : (Option (Res × St)) :=
(bn (lenStrO a1) fun x0 =>
(bn (binO .eql 3 true x0 (n64 0)) fun x1 =>
(bn (guardB false x1) fun x2 =>
(bn (ifb x2 (some a1)
(some (D.tup []))) fun x3 =>
(bn (guardB false x1) fun x4 =>
(bn (ifb x4 (some a0)
(some (D.tup []))) fun x5 =>
(bn (guardB false x1) fun x6 =>
(bn (ifb x6 (binO .eql 3 false x3 x5)
(some (D.tup []))) fun x7 =>
(bn (mp (D.bool? x1) fun x8 => (ifb x8 (D.bool true)
 x7)) fun x8 =>
(bn (D.bool? x8) fun x9 =>
(ifb x9 (leaveM M RetK.can A (Res.ret (n64 0)) A)
(bn (binO .eql 3 true x0 (n64 1)) fun x10 =>
(bn (D.bool? x10) fun x11 =>
(ifb x11 (bn (indexStrO a1 (n64 0)) fun x12 =>
(bn (call 102 [a0, x12] A) fun x13 =>
(Res.elim x13.1 (fun x14 => (leaveM M RetK.can A (Res.ret x14) x13.2)) (fun x14 => (leaveM M RetK.can A (Res.pan x14) x13.2)))))
(bn (lenStrO a0) fun x12 =>
(bn (binO .geq 3 false x0 x12) fun x13 =>
(bn (D.bool? x13) fun x14 =>
(ifb x14 (leaveM M RetK.can A (Res.ret (n64 (-1))) A)
(bn (mp (loadO false 1 D.any A) fun x15 => (x15, A)) fun x15 =>
(bn (binO .leq 3 false x0 x15.1) fun x16 =>
(bn (guardB true x16) fun x17 =>
(bn (ifb x17 (some a0)
(some (D.tup []))) fun x18 =>
(bn (guardB true x16) fun x19 =>
(bn (ifb x19 (lenStrO x18)
(some (D.tup []))) fun x20 =>
(bn (guardB true x16) fun x21 =>
(bn (ifb x21 (binO .leq 3 true x20 (n64 64))
(some (D.tup []))) fun x22 =>
(bn (mp (D.bool? x16) fun x23 => (ifb x23 x22
(D.bool false))) fun x23 =>
(bn (D.bool? x23) fun x24 =>
(ifb x24 (bn (call 105 [a0, a1] x15.2) fun x25 =>
(Res.elim x25.1 (fun x26 => (leaveM M RetK.can A (Res.ret x26) x25.2)) (fun x26 => (leaveM M RetK.can A (Res.pan x26) x25.2))))
(bn (indexStrO a1 (n64 0)) fun x25 =>
(bn (indexStrO a1 (n64 1)) fun x26 =>
(bn (lenStrO a0) fun x27 =>
(bn (binO .sub 3 false x27 x0) fun x28 =>
(bn (binO .add 3 true x28 (n64 1)) fun x29 =>
(@Mode.it M (Res × St) (f101_s0 M call dcall A) (Env.mk (sp [(0, a0), (0, a1), (3, x0), (0, x25), (0, x26), (0, (n64 0)), (0, x29), (0, (n64 0))] 132) []) x15.2)))))))))))))))))))))))))))))))))))
theorem b101 (M : Mode) (call : CallT) (dcall : DcallT) (a0 a1 : D) (A : St) : bodyN M Tryz.prog rxHint kk call dcall 101 [a0, a1] A = f101 M call dcall a0.canon a1.canon A := by
  kernel_rfl
noncomputable def f102 (M : Mode) (call : CallT) (dcall : DcallT) (a0 : D) (a1 : D) (A : St) : (Option (Res × St)) :=
(bn (call 108 [a0, a1] A) fun x0 =>
(Res.elim x0.1 (fun x1 => (leaveM M RetK.can A (Res.ret x1) x0.2)) (fun x1 => (leaveM M RetK.can A (Res.pan x1) x0.2))))
theorem b102 (M : Mode) (call : CallT) (dcall : DcallT) (a0 a1 : D) (A : St) : bodyN M Tryz.prog rxHint kk call dcall 102 [a0, a1] A = f102 M call dcall a0.canon a1.canon A := by
  kernel_rfl
noncomputable def f103 (M : Mode) (call : CallT) (dcall : DcallT) (a0 : D) (a1 : D) (A : St) : (Option (Res × St)) :=
(bn (lenStrO a0) fun x0 =>
(bn (lenStrO a1) fun x1 =>
(bn (binO .geq 3 false x0 x1) fun x2 =>
(bn (guardB true x2) fun x3 =>
(bn (ifb x3 (some a0)
(some (D.tup []))) fun x4 =>
(bn (guardB true x2) fun x5 =>
(bn (ifb x5 (some a1)
(some (D.tup []))) fun x6 =>
(bn (guardB true x2) fun x7 =>
(bn (ifb x7 (lenStrO x6)
(some (D.tup []))) fun x8 =>
(bn (guardB true x2) fun x9 =>
(bn (ifb x9 (sliceStrO x4 none (some x8) none)
(some (D.tup []))) fun x10 =>
(bn (guardB true x2) fun x11 =>
(bn (ifb x11 (some a1)
(some (D.tup []))) fun x12 =>
(bn (guardB true x2) fun x13 =>
(bn (ifb x13 (binO .eql 3 false x10 x12)
(some (D.tup []))) fun x14 =>
(bn (mp (D.bool? x2) fun x15 => (ifb x15 x14
(D.bool false))) fun x15 =>
(leaveM M RetK.can A (Res.ret x15) A)))))))))))))))))
theorem b103 (M : Mode) (call : CallT) (dcall : DcallT) (a0 a1 : D) (A : St) : bodyN M Tryz.prog rxHint kk call dcall 103 [a0, a1] A = f103 M call dcall a0.canon a1.canon A := by
  kernel_rfl
noncomputable def f104 (M : Mode) (call : CallT) (dcall : DcallT) (a0 : D) (A : St) : (Option (Res × St)) :=
(bn (allocO [(n64 0), (D.str []), (D.sl Own.full 0 [])] A) fun x0 =>
(bn (nilCheckD a0) fun x1 =>
(bn (fieldAddrO 0 x1) fun x2 =>
(bn (call 98 [x2] x0.2) fun x3 =>
(Res.elim x3.1 (fun x4 => (bn (binO .eql 3 true x4 (D.str [(40 : UInt8)])) fun x5 =>
(bn (guardB true x5) fun x6 =>
(bn (ifb x6 (some a0)
(some (D.tup []))) fun x7 =>
(bn (guardB true x5) fun x8 =>
(bn (ifb x8 (nilCheckD x7)
(some (D.tup []))) fun x9 =>
(bn (guardB true x5) fun x10 =>
(bn (ifb x10 (fieldAddrO 2 x9)
(some (D.tup []))) fun x11 =>
(bn (guardB true x5) fun x12 =>
(bn (ifb x12 (mp (loadO false 1 x11 x3.2) fun x13 => (x13, x3.2))
(some ((D.tup []), x3.2))) fun x13 =>
(bn (guardB true x5) fun x14 =>
(bn (ifb x14 (binO .geq 3 true x13.1 (n64 50))
(some (D.tup []))) fun x15 =>
(bn (mp (D.bool? x5) fun x16 => (ifb x16 x15
(D.bool false))) fun x16 =>
(bn (D.bool? x16) fun x17 =>
(bn (ifb x17 (bn (nilCheckD a0) fun x18 =>
(bn (fieldAddrO 0 x18) fun x19 =>
(bn (call 56 [x19, (n64 91)] x13.2) fun x20 =>
(Res.elim x20.1 (fun x21 => (some (Sum.inl ((Env.mk (sp [(0, a0), (1, x0.1), (22, x21)] 65) []), x20.2)))) (fun x21 => (Option.map (Sum.inr ) (leaveM M RetK.can A (Res.pan x21) x20.2)))))))
(some (Sum.inl ((Env.mk (sp [(0, a0), (1, x0.1), (22, (D.tup []))] 65) []), x13.2)))) fun x18 =>
(Sum.elim (fun (x19 : (Env × St)) => (bn (nilCheckD (x19.1.g 0)) fun x20 =>
(bn (fieldAddrO 0 x20) fun x21 =>
(bn (mp (Option.map (D.sl Own.full 1) (sliceParts 1 false 0 [(0, (D.str [(40 : UInt8)])), (1, (D.str [(36 : UInt8)])), (2, (D.str [(46 : UInt8)]))])) fun x22 => (x22, x19.2)) fun x22 =>
(bn (call 80 [x21, x22.1] x22.2) fun x23 =>
(Res.elim x23.1 (fun x24 => (bn (extractD x24 0) fun x25 =>
(bn (extractD x24 1) fun x26 =>
(bn (unD UnOp.not x26) fun x27 =>
(bn (D.bool? x27) fun x28 =>
(ifb x28 (bn (call 109 [(x19.1.g 0)] x23.2) fun x29 =>
(Res.elim x29.1 (fun x30 => (bn (Option.map D.agg (Option.bind (layCells false 1 0 [(n64 0), (D.str []), (D.sl Own.full 0 [])] (n64 1)) (fun (x31 : (List D)) => (Option.bind (layCells false 1 1 x31 x30) (fun (x32 : (List D)) => (some x32)))))) fun x31 =>
(bn (mp (storeO true 3 (x19.1.g 2) x31 x29.2) fun x32 => ((D.tup []), x32)) fun x32 =>
(bn (leavesD dcall (fun (x33 : St) => (Option.map packD (Option.bind (loadO true 3 (x19.1.g 2) x33) (fun x34 => (some [x34]))))) (x19.1).df none x32.2) fun x33 =>
(leaveM M RetK.can A x33.1 x33.2))))) (fun x30 => (bn (leavesD dcall (fun (x31 : St) => (Option.map packD (Option.bind (loadO true 3 (x19.1.g 2) x31) (fun x32 => (some [x32]))))) (x19.1).df (some x30) x29.2) fun x31 =>
(leaveM M RetK.can A x31.1 x31.2)))))
(bn (binO .eql 3 true x25 (D.str [(46 : UInt8)])) fun x29 =>
(bn (D.bool? x29) fun x30 =>
(ifb x30 (bn (mp (storeO true 3 (x19.1.g 2) (D.agg [(n64 3), (D.str []), (D.sl Own.full 0 [])]) x23.2) fun x31 => ((D.tup []), x31)) fun x31 =>
(bn (leavesD dcall (fun (x32 : St) => (Option.map packD (Option.bind (loadO true 3 (x19.1.g 2) x32) (fun x33 => (some [x33]))))) (x19.1).df none x31.2) fun x32 =>
(leaveM M RetK.can A x32.1 x32.2)))
(bn (binO .eql 3 true x25 (D.str [(36 : UInt8)])) fun x31 =>
(bn (D.bool? x31) fun x32 =>
(ifb x32 (bn (call 109 [(x19.1.g 0)] x23.2) fun x33 =>
(Res.elim x33.1 (fun x34 => (bn (Option.map D.agg (Option.bind (layCells false 1 0 [(n64 0), (D.str []), (D.sl Own.full 0 [])] (n64 2)) (fun (x35 : (List D)) => (Option.bind (layCells false 1 1 x35 x34) (fun (x36 : (List D)) => (some x36)))))) fun x35 =>
(bn (mp (storeO true 3 (x19.1.g 2) x35 x33.2) fun x36 => ((D.tup []), x36)) fun x36 =>
(bn (leavesD dcall (fun (x37 : St) => (Option.map packD (Option.bind (loadO true 3 (x19.1.g 2) x37) (fun x38 => (some [x38]))))) (x19.1).df none x36.2) fun x37 =>
(leaveM M RetK.can A x37.1 x37.2))))) (fun x34 => (bn (leavesD dcall (fun (x35 : St) => (Option.map packD (Option.bind (loadO true 3 (x19.1.g 2) x35) (fun x36 => (some [x36]))))) (x19.1).df (some x34) x33.2) fun x35 =>
(leaveM M RetK.can A x35.1 x35.2)))))
(bn (nilCheckD (x19.1.g 0)) fun x33 =>
(bn (fieldAddrO 0 x33) fun x34 =>
(bn (mp (Option.map (D.sl Own.full 1) (sliceParts 1 false 0 [(0, (D.str [(41 : UInt8)]))])) fun x35 => (x35, x23.2)) fun x35 =>
(bn (call 80 [x34, x35.1] x35.2) fun x36 =>
(Res.elim x36.1 (fun x37 => (bn (extractD x37 0) fun x38 =>
(bn (extractD x37 1) fun x39 =>
(bn (D.bool? x39) fun x40 =>
(ifb x40 (bn (mp (storeO true 3 (x19.1.g 2) (D.agg [(n64 4), (D.str []), (D.sl Own.full 0 [])]) x36.2) fun x41 => ((D.tup []), x41)) fun x41 =>
(bn (leavesD dcall (fun (x42 : St) => (Option.map packD (Option.bind (loadO true 3 (x19.1.g 2) x42) (fun x43 => (some [x43]))))) (x19.1).df none x41.2) fun x42 =>
(leaveM M RetK.can A x42.1 x42.2)))
(bn (nilCheckD (x19.1.g 0)) fun x41 =>
(bn (fieldAddrO 2 x41) fun x42 =>
(bn (mp (loadO false 1 x42 x36.2) fun x43 => (x43, x36.2)) fun x43 =>
(bn (binO .add 3 true x43.1 (n64 1)) fun x44 =>
(bn (nilCheckD (x19.1.g 0)) fun x45 =>
(bn (fieldAddrO 2 x45) fun x46 =>
(bn (mp (storeO false 1 x46 x44 x43.2) fun x47 => ((D.tup []), x47)) fun x47 =>
(bn (call 55 [(x19.1.g 0)] x47.2) fun x48 =>
(Res.elim x48.1 (fun x49 => (bn (allocO [(n64 0), (D.str []), (D.sl Own.full 0 [])] x48.2) fun x50 =>
(bn (mp (storeO true 3 x50.1 x49 x50.2) fun x51 => ((D.tup []), x51)) fun x51 =>
(bn (nilCheckD (x19.1.g 0)) fun x52 =>
(bn (fieldAddrO 2 x52) fun x53 =>
(bn (mp (loadO false 1 x53 x51.2) fun x54 => (x54, x51.2)) fun x54 =>
(bn (binO .sub 3 true x54.1 (n64 1)) fun x55 =>
(bn (nilCheckD (x19.1.g 0)) fun x56 =>
(bn (fieldAddrO 2 x56) fun x57 =>
(bn (mp (storeO false 1 x57 x55 x54.2) fun x58 => ((D.tup []), x58)) fun x58 =>
(bn (nilCheckD (x19.1.g 0)) fun x59 =>
(bn (fieldAddrO 0 x59) fun x60 =>
(bn (mp (Option.map (D.sl Own.full 1) (sliceParts 1 false 0 [(0, (D.str [(41 : UInt8)]))])) fun x61 => (x61, x58.2)) fun x61 =>
(bn (call 80 [x60, x61.1] x61.2) fun x62 =>
(Res.elim x62.1 (fun x63 => (bn (extractD x63 0) fun x64 =>
(bn (extractD x63 1) fun x65 =>
(bn (unD UnOp.not x65) fun x66 =>
(bn (D.bool? x66) fun x67 =>
(bn (ifb x67 (bn (nilCheckD (x19.1.g 0)) fun x68 =>
(bn (fieldAddrO 0 x68) fun x69 =>
(bn (call 56 [x69, (n64 90)] x62.2) fun x70 =>
(Res.elim x70.1 (fun x71 => (some (Sum.inl ((Env.mk (sp [(2, (x19.1.g 2)), (4, x50.1), (17, (x19.1.g 25))] 65) (x19.1).df), x70.2)))) (fun x71 => (Option.map (Sum.inr ) (bn (leavesD dcall (fun (x72 : St) => (Option.map packD (Option.bind (loadO true 3 (x19.1.g 2) x72) (fun x73 => (some [x73]))))) (x19.1).df (some x71) x70.2) fun x72 =>
(leaveM M RetK.can A x72.1 x72.2))))))))
(some (Sum.inl ((Env.mk (sp [(2, (x19.1.g 2)), (4, x50.1), (17, (x19.1.g 25))] 65) (x19.1).df), x62.2)))) fun x68 =>
(Sum.elim (fun (x69 : (Env × St)) => (bn (mp (loadO true 3 (x69.1.g 7) x69.2) fun x70 => (x70, x69.2)) fun x70 =>
(bn (mp (storeO true 3 (x69.1.g 2) x70.1 x70.2) fun x71 => ((D.tup []), x71)) fun x71 =>
(bn (leavesD dcall (fun (x72 : St) => (Option.map packD (Option.bind (loadO true 3 (x69.1.g 2) x72) (fun x73 => (some [x73]))))) (x69.1).df none x71.2) fun x72 =>
(leaveM M RetK.can A x72.1 x72.2))))) (fun (x69 : (Res × St)) => (some x69)) x68))))))) (fun x63 => (bn (leavesD dcall (fun (x64 : St) => (Option.map packD (Option.bind (loadO true 3 (x19.1.g 2) x64) (fun x65 => (some [x65]))))) (x19.1).df (some x63) x62.2) fun x64 =>
(leaveM M RetK.can A x64.1 x64.2)))))))))))))))))) (fun x49 => (bn (leavesD dcall (fun (x50 : St) => (Option.map packD (Option.bind (loadO true 3 (x19.1.g 2) x50) (fun x51 => (some [x51]))))) (x19.1).df (some x49) x48.2) fun x50 =>
(leaveM M RetK.can A x50.1 x50.2))))))))))))))))) (fun x37 => (bn (leavesD dcall (fun (x38 : St) => (Option.map packD (Option.bind (loadO true 3 (x19.1.g 2) x38) (fun x39 => (some [x39]))))) (x19.1).df (some x37) x36.2) fun x38 =>
(leaveM M RetK.can A x38.1 x38.2)))))))))))))))))))) (fun x24 => (bn (leavesD dcall (fun (x25 : St) => (Option.map packD (Option.bind (loadO true 3 (x19.1.g 2) x25) (fun x26 => (some [x26]))))) (x19.1).df (some x24) x23.2) fun x25 =>
(leaveM M RetK.can A x25.1 x25.2))))))))) (fun (x19 : (Res × St)) => (some x19)) x18)))))))))))))))) (fun x4 => (leaveM M RetK.can A (Res.pan x4) x3.2)))))))
theorem b104 (M : Mode) (call : CallT) (dcall : DcallT) (a0 : D) (A : St) : bodyN M Tryz.prog rxHint kk call dcall 104 [a0] A = f104 M call dcall a0.canon A := by
  kernel_rfl
noncomputable def f109 (M : Mode) (call : CallT) (dcall : DcallT) (a0 : D) (A : St) : (Option (Res × St)) :=
(bn (nilCheckD a0) fun x0 =>
(bn (fieldAddrO 0 x0) fun x1 =>
(bn (call 98 [x1] A) fun x2 =>
(Res.elim x2.1 (fun x3 => (bn (call 43 [x3] x2.2) fun x4 =>
(Res.elim x4.1 (fun x5 => (bn (unD UnOp.not x5) fun x6 =>
(bn (D.bool? x6) fun x7 =>
(bn (ifb x7 (bn (nilCheckD a0) fun x8 =>
(bn (fieldAddrO 0 x8) fun x9 =>
(bn (call 56 [x9, (n64 90)] x4.2) fun x10 =>
(Res.elim x10.1 (fun x11 => (some (Sum.inl ((Env.mk (sp [(0, a0), (2, x3)] 21) []), x10.2)))) (fun x11 => (Option.map (Sum.inr ) (leaveM M RetK.can A (Res.pan x11) x10.2)))))))
(some (Sum.inl ((Env.mk (sp [(0, a0), (2, x3)] 21) []), x4.2)))) fun x8 =>
(Sum.elim (fun (x9 : (Env × St)) => (bn (nilCheckD (x9.1.g 0)) fun x10 =>
(bn (fieldAddrO 0 x10) fun x11 =>
(bn (fieldAddrO 1 x11) fun x12 =>
(bn (mp (loadO false 1 x12 x9.2) fun x13 => (x13, x9.2)) fun x13 =>
(bn (binO .add 3 true x13.1 (n64 1)) fun x14 =>
(bn (nilCheckD (x9.1.g 0)) fun x15 =>
(bn (fieldAddrO 0 x15) fun x16 =>
(bn (fieldAddrO 1 x16) fun x17 =>
(bn (mp (storeO false 1 x17 x14 x13.2) fun x18 => ((D.tup []), x18)) fun x18 =>
(bn (leavesD dcall (fun (x19 : St) => (some (x9.1.g 3))) (x9.1).df none x18.2) fun x19 =>
(leaveM M RetK.can A x19.1 x19.2)))))))))))) (fun (x9 : (Res × St)) => (some x9)) x8))))) (fun x5 => (leaveM M RetK.can A (Res.pan x5) x4.2))))) (fun x3 => (leaveM M RetK.can A (Res.pan x3) x2.2))))))
theorem b109 (M : Mode) (call : CallT) (dcall : DcallT) (a0 : D) (A : St) : bodyN M Tryz.prog rxHint kk call dcall 109 [a0] A = f109 M call dcall a0.canon A := by
  kernel_rfl
def e38_8 (t6 t7 : D) : List D := sp [(6, t6), (0, t7)] 32
noncomputable def d54n (M : Mode) (call : CallT) (a0 : D) (a1 : D) (a2 : D) (A : St) : (Option ((Option D) × St)) :=
(bn (D.bool? (negIf false true)) fun x0 =>
(ifb x0 (@Mode.gk M ((Option D) × St) A A (some (none, (List.take (List.length A) A))))
(bn (assertV (some (D.agg [(n64 0), (n64 0)])) (D.val Value.nilIface) 103 true) fun x1 =>
(bn (extractD x1 0) fun x2 =>
(bn (extractD x1 1) fun x3 =>
(bn (allocO [(n64 0), (n64 0)] A) fun x4 =>
(bn (mp (storeO true 2 x4.1 x2 x4.2) fun x5 => ((D.tup []), x5)) fun x5 =>
(bn (unD UnOp.not x3) fun x6 =>
(bn (D.bool? x6) fun x7 =>
(ifb x7 (bn (mp (panicD (D.val Value.nilIface)) fun x8 => (x8, x5.2)) fun x8 =>
(Res.elim x8.1 (fun x9 => (bn (fieldAddrO 0 x4.1) fun x10 =>
(bn (mp (mp (loadO false 1 x10 x8.2) fun x11 => (x11, x8.2)) fun x11 => x11.1) fun x11 =>
(bn (fieldAddrO 1 x4.1) fun x12 =>
(bn (mp (mp (loadO false 1 x12 x8.2) fun x13 => (x13, x8.2)) fun x13 => x13.1) fun x13 =>
(bn (mp (storeO true 3 a0 (D.agg [(n64 0), (D.str []), (D.sl Own.full 0 [])]) x8.2) fun x14 => ((D.tup []), x14)) fun x14 =>
(bn (mp (storeO false 1 a1 x11 x14.2) fun x15 => ((D.tup []), x15)) fun x15 =>
(bn (mp (storeO false 1 a2 x13 x15.2) fun x16 => ((D.tup []), x16)) fun x16 =>
(@Mode.gs M ((Option D) × St) ((sameAd x10 x8.2 x14.2) ∧ ((sameAd x12 x8.2 x14.2) ∧ ((sameAd x12 x14.2 x15.2) ∧ True))) (Bool.and (sameAdB x10 x8.2 x14.2) (Bool.and (sameAdB x12 x8.2 x14.2) (Bool.and (sameAdB x12 x14.2 x15.2) true))) (@Mode.gk M ((Option D) × St) A x16.2 (some (none, (List.take (List.length A) x16.2))))))))))))) (fun x9 => none)))
(bn (fieldAddrO 0 x4.1) fun x8 =>
(bn (mp (mp (loadO false 1 x8 x5.2) fun x9 => (x9, x5.2)) fun x9 => x9.1) fun x9 =>
(bn (fieldAddrO 1 x4.1) fun x10 =>
(bn (mp (mp (loadO false 1 x10 x5.2) fun x11 => (x11, x5.2)) fun x11 => x11.1) fun x11 =>
(bn (mp (storeO true 3 a0 (D.agg [(n64 0), (D.str []), (D.sl Own.full 0 [])]) x5.2) fun x12 => ((D.tup []), x12)) fun x12 =>
(bn (mp (storeO false 1 a1 x9 x12.2) fun x13 => ((D.tup []), x13)) fun x13 =>
(bn (mp (storeO false 1 a2 x11 x13.2) fun x14 => ((D.tup []), x14)) fun x14 =>
(@Mode.gs M ((Option D) × St) ((sameAd x8 x5.2 x12.2) ∧ ((sameAd x10 x5.2 x12.2) ∧ ((sameAd x10 x12.2 x13.2) ∧ True))) (Bool.and (sameAdB x8 x5.2 x12.2) (Bool.and (sameAdB x10 x5.2 x12.2) (Bool.and (sameAdB x10 x12.2 x13.2) true))) (@Mode.gk M ((Option D) × St) A x14.2 (some (none, (List.take (List.length A) x14.2))))))))))))))))))))))
theorem bd54n (M : Mode) (call : CallT) (a0 a1 a2 : D) (A : St) : dbodyK M Tryz.prog rxHint kk call 54 [a0, a1, a2] none A = d54n M call a0 a1 a2 A := by
  kernel_rfl
noncomputable def d54p (M : Mode) (call : CallT) (p : D) (a0 : D) (a1 : D) (a2 : D) (A : St) : (Option ((Option D) × St)) :=
(bn (binO .eql 1 true p (D.val Value.nilIface)) fun x0 =>
(bn (D.bool? x0) fun x1 =>
(ifb x1 (@Mode.gk M ((Option D) × St) A A (some (none, (List.take (List.length A) A))))
(bn (assertV (some (D.agg [(n64 0), (n64 0)])) p 103 true) fun x2 =>
(bn (extractD x2 0) fun x3 =>
(bn (extractD x2 1) fun x4 =>
(bn (allocO [(n64 0), (n64 0)] A) fun x5 =>
(bn (mp (storeO true 2 x5.1 x3 x5.2) fun x6 => ((D.tup []), x6)) fun x6 =>
(bn (unD UnOp.not x4) fun x7 =>
(bn (D.bool? x7) fun x8 =>
(ifb x8 (bn (mp (panicD p) fun x9 => (x9, x6.2)) fun x9 =>
(Res.elim x9.1 (fun x10 => (bn (fieldAddrO 0 x5.1) fun x11 =>
(bn (mp (mp (loadO false 1 x11 x9.2) fun x12 => (x12, x9.2)) fun x12 => x12.1) fun x12 =>
(bn (fieldAddrO 1 x5.1) fun x13 =>
(bn (mp (mp (loadO false 1 x13 x9.2) fun x14 => (x14, x9.2)) fun x14 => x14.1) fun x14 =>
(bn (mp (storeO true 3 a0 (D.agg [(n64 0), (D.str []), (D.sl Own.full 0 [])]) x9.2) fun x15 => ((D.tup []), x15)) fun x15 =>
(bn (mp (storeO false 1 a1 x12 x15.2) fun x16 => ((D.tup []), x16)) fun x16 =>
(bn (mp (storeO false 1 a2 x14 x16.2) fun x17 => ((D.tup []), x17)) fun x17 =>
(@Mode.gs M ((Option D) × St) ((sameAd x11 x9.2 x15.2) ∧ ((sameAd x13 x9.2 x15.2) ∧ ((sameAd x13 x15.2 x16.2) ∧ True))) (Bool.and (sameAdB x11 x9.2 x15.2) (Bool.and (sameAdB x13 x9.2 x15.2) (Bool.and (sameAdB x13 x15.2 x16.2) true))) (@Mode.gk M ((Option D) × St) A x17.2 (some (none, (List.take (List.length A) x17.2))))))))))))) (fun x10 => none)))
(bn (fieldAddrO 0 x5.1) fun x9 =>
(bn (mp (mp (loadO false 1 x9 x6.2) fun x10 => (x10, x6.2)) fun x10 => x10.1) fun x10 =>
(bn (fieldAddrO 1 x5.1) fun x11 =>
(bn (mp (mp (loadO false 1 x11 x6.2) fun x12 => (x12, x6.2)) fun x12 => x12.1) fun x12 =>
(bn (mp (storeO true 3 a0 (D.agg [(n64 0), (D.str []), (D.sl Own.full 0 [])]) x6.2) fun x13 => ((D.tup []), x13)) fun x13 =>
(bn (mp (storeO false 1 a1 x10 x13.2) fun x14 => ((D.tup []), x14)) fun x14 =>
(bn (mp (storeO false 1 a2 x12 x14.2) fun x15 => ((D.tup []), x15)) fun x15 =>
(@Mode.gs M ((Option D) × St) ((sameAd x9 x6.2 x13.2) ∧ ((sameAd x11 x6.2 x13.2) ∧ ((sameAd x11 x13.2 x14.2) ∧ True))) (Bool.and (sameAdB x9 x6.2 x13.2) (Bool.and (sameAdB x11 x6.2 x13.2) (Bool.and (sameAdB x11 x13.2 x14.2) true))) (@Mode.gk M ((Option D) × St) A x15.2 (some (none, (List.take (List.length A) x15.2)))))))))))))))))))))))
theorem bd54p (M : Mode) (call : CallT) (p a0 a1 a2 : D) (A : St) : dbodyK M Tryz.prog rxHint kk call 54 [a0, a1, a2] (some p) A = d54p M call p a0 a1 a2 A := by
  kernel_rfl
noncomputable def d50n (M : Mode) (call : CallT) (a0 : D) (a1 : D) (a2 : D) (a3 : D) (A : St) : (Option ((Option D) × St)) :=
(bn (D.bool? (negIf false true)) fun x0 =>
(ifb x0 (@Mode.gk M ((Option D) × St) A A (some (none, (List.take (List.length A) A))))
(bn (assertV (some (D.agg [(n64 0), (n64 0)])) (D.val Value.nilIface) 91 true) fun x1 =>
(bn (extractD x1 0) fun x2 =>
(bn (extractD x1 1) fun x3 =>
(bn (allocO [(n64 0), (n64 0)] A) fun x4 =>
(bn (mp (storeO true 2 x4.1 x2 x4.2) fun x5 => ((D.tup []), x5)) fun x5 =>
(bn (unD UnOp.not x3) fun x6 =>
(bn (D.bool? x6) fun x7 =>
(ifb x7 (bn (mp (panicD (D.val Value.nilIface)) fun x8 => (x8, x5.2)) fun x8 =>
(Res.elim x8.1 (fun x9 => (bn (fieldAddrO 0 x4.1) fun x10 =>
(bn (mp (mp (loadO false 1 x10 x8.2) fun x11 => (x11, x8.2)) fun x11 => x11.1) fun x11 =>
(bn (fieldAddrO 1 x4.1) fun x12 =>
(bn (mp (mp (loadO false 1 x12 x8.2) fun x13 => (x13, x8.2)) fun x13 => x13.1) fun x13 =>
(bn (mp (storeO false 1 a0 (D.sl Own.full 0 []) x8.2) fun x14 => ((D.tup []), x14)) fun x14 =>
(bn (mp (storeO false 1 a1 x11 x14.2) fun x15 => ((D.tup []), x15)) fun x15 =>
(bn (mp (storeO false 1 a2 x13 x15.2) fun x16 => ((D.tup []), x16)) fun x16 =>
(bn (mp (storeO false 1 a3 (n64 30) x16.2) fun x17 => ((D.tup []), x17)) fun x17 =>
(@Mode.gs M ((Option D) × St) ((sameAd x10 x8.2 x14.2) ∧ ((sameAd x12 x8.2 x14.2) ∧ ((sameAd x12 x14.2 x15.2) ∧ True))) (Bool.and (sameAdB x10 x8.2 x14.2) (Bool.and (sameAdB x12 x8.2 x14.2) (Bool.and (sameAdB x12 x14.2 x15.2) true))) (@Mode.gk M ((Option D) × St) A x17.2 (some (none, (List.take (List.length A) x17.2)))))))))))))) (fun x9 => none)))
(bn (fieldAddrO 0 x4.1) fun x8 =>
(bn (mp (mp (loadO false 1 x8 x5.2) fun x9 => (x9, x5.2)) fun x9 => x9.1) fun x9 =>
(bn (fieldAddrO 1 x4.1) fun x10 =>
(bn (mp (mp (loadO false 1 x10 x5.2) fun x11 => (x11, x5.2)) fun x11 => x11.1) fun x11 =>
(bn (mp (storeO false 1 a0 (D.sl Own.full 0 []) x5.2) fun x12 => ((D.tup []), x12)) fun x12 =>
(bn (mp (storeO false 1 a1 x9 x12.2) fun x13 => ((D.tup []), x13)) fun x13 =>
(bn (mp (storeO false 1 a2 x11 x13.2) fun x14 => ((D.tup []), x14)) fun x14 =>
(bn (mp (storeO false 1 a3 (n64 30) x14.2) fun x15 => ((D.tup []), x15)) fun x15 =>
(@Mode.gs M ((Option D) × St) ((sameAd x8 x5.2 x12.2) ∧ ((sameAd x10 x5.2 x12.2) ∧ ((sameAd x10 x12.2 x13.2) ∧ True))) (Bool.and (sameAdB x8 x5.2 x12.2) (Bool.and (sameAdB x10 x5.2 x12.2) (Bool.and (sameAdB x10 x12.2 x13.2) true))) (@Mode.gk M ((Option D) × St) A x15.2 (some (none, (List.take (List.length A) x15.2)))))))))))))))))))))))
theorem bd50n (M : Mode) (call : CallT) (a0 a1 a2 a3 : D) (A : St) : dbodyK M Tryz.prog rxHint kk call 50 [a0, a1, a2, a3] none A = d50n M call a0 a1 a2 a3 A := by
  kernel_rfl
noncomputable def d50p (M : Mode) (call : CallT) (p : D) (a0 : D) (a1 : D) (a2 : D) (a3 : D) (A : St) : (Option ((Option D) × St)) :=
(bn (binO .eql 1 true p (D.val Value.nilIface)) fun x0 =>
(bn (D.bool? x0) fun x1 =>
(ifb x1 (@Mode.gk M ((Option D) × St) A A (some (none, (List.take (List.length A) A))))
(bn (assertV (some (D.agg [(n64 0), (n64 0)])) p 91 true) fun x2 =>
(bn (extractD x2 0) fun x3 =>
(bn (extractD x2 1) fun x4 =>
(bn (allocO [(n64 0), (n64 0)] A) fun x5 =>
(bn (mp (storeO true 2 x5.1 x3 x5.2) fun x6 => ((D.tup []), x6)) fun x6 =>
(bn (unD UnOp.not x4) fun x7 =>
(bn (D.bool? x7) fun x8 =>
(ifb x8 (bn (mp (panicD p) fun x9 => (x9, x6.2)) fun x9 =>
(Res.elim x9.1 (fun x10 => (bn (fieldAddrO 0 x5.1) fun x11 =>
(bn (mp (mp (loadO false 1 x11 x9.2) fun x12 => (x12, x9.2)) fun x12 => x12.1) fun x12 =>
(bn (fieldAddrO 1 x5.1) fun x13 =>
(bn (mp (mp (loadO false 1 x13 x9.2) fun x14 => (x14, x9.2)) fun x14 => x14.1) fun x14 =>
(bn (mp (storeO false 1 a0 (D.sl Own.full 0 []) x9.2) fun x15 => ((D.tup []), x15)) fun x15 =>
(bn (mp (storeO false 1 a1 x12 x15.2) fun x16 => ((D.tup []), x16)) fun x16 =>
(bn (mp (storeO false 1 a2 x14 x16.2) fun x17 => ((D.tup []), x17)) fun x17 =>
(bn (mp (storeO false 1 a3 (n64 30) x17.2) fun x18 => ((D.tup []), x18)) fun x18 =>
(@Mode.gs M ((Option D) × St) ((sameAd x11 x9.2 x15.2) ∧ ((sameAd x13 x9.2 x15.2) ∧ ((sameAd x13 x15.2 x16.2) ∧ True))) (Bool.and (sameAdB x11 x9.2 x15.2) (Bool.and (sameAdB x13 x9.2 x15.2) (Bool.and (sameAdB x13 x15.2 x16.2) true))) (@Mode.gk M ((Option D) × St) A x18.2 (some (none, (List.take (List.length A) x18.2)))))))))))))) (fun x10 => none)))
(bn (fieldAddrO 0 x5.1) fun x9 =>
(bn (mp (mp (loadO false 1 x9 x6.2) fun x10 => (x10, x6.2)) fun x10 => x10.1) fun x10 =>
(bn (fieldAddrO 1 x5.1) fun x11 =>
(bn (mp (mp (loadO false 1 x11 x6.2) fun x12 => (x12, x6.2)) fun x12 => x12.1) fun x12 =>
(bn (mp (storeO false 1 a0 (D.sl Own.full 0 []) x6.2) fun x13 => ((D.tup []), x13)) fun x13 =>
(bn (mp (storeO false 1 a1 x10 x13.2) fun x14 => ((D.tup []), x14)) fun x14 =>
(bn (mp (storeO false 1 a2 x12 x14.2) fun x15 => ((D.tup []), x15)) fun x15 =>
(bn (mp (storeO false 1 a3 (n64 30) x15.2) fun x16 => ((D.tup []), x16)) fun x16 =>
(@Mode.gs M ((Option D) × St) ((sameAd x9 x6.2 x13.2) ∧ ((sameAd x11 x6.2 x13.2) ∧ ((sameAd x11 x13.2 x14.2) ∧ True))) (Bool.and (sameAdB x9 x6.2 x13.2) (Bool.and (sameAdB x11 x6.2 x13.2) (Bool.and (sameAdB x11 x13.2 x14.2) true))) (@Mode.gk M ((Option D) × St) A x16.2 (some (none, (List.take (List.length A) x16.2))))))))))))))))))))))))
theorem bd50p (M : Mode) (call : CallT) (p a0 a1 a2 a3 : D) (A : St) : dbodyK M Tryz.prog rxHint kk call 50 [a0, a1, a2, a3] (some p) A = d50p M call p a0 a1 a2 a3 A := by
  kernel_rfl
noncomputable def f3 (M : Mode) (call : CallT) (dcall : DcallT) (a0 : D) (a1 : D) (A : St) : (Option (Res × St)) :=
(bn (boxO true a0 A) fun x0 =>
(bn (call 4 [a1] x0.2) fun x1 =>
(Res.elim x1.1 (fun x2 => (bn (mp (loadO true 3 x0.1 x1.2) fun x3 => (x3, x1.2)) fun x3 =>
(bn (call 5 [x3.1, x2] x3.2) fun x4 =>
(Res.elim x4.1 (fun x5 => (bn (extractD x5 0) fun x6 =>
(bn (extractD x5 1) fun x7 =>
(bn (mp (loadO true 3 x0.1 x4.2) fun x8 => (x8, x4.2)) fun x8 =>
(bn (call 6 [x8.1, x2] x8.2) fun x9 =>
(Res.elim x9.1 (fun x10 => (bn (extractD x10 0) fun x11 =>
(bn (extractD x10 1) fun x12 =>
(bn (mp (loadO true 3 x0.1 x9.2) fun x13 => (x13, x9.2)) fun x13 =>
(bn (call 7 [x13.1] x13.2) fun x14 =>
(Res.elim x14.1 (fun x15 => (bn (extractD x15 0) fun x16 =>
(bn (extractD x15 1) fun x17 =>
(bn (extractD x15 2) fun x18 =>
(bn (mp (loadO true 3 x0.1 x14.2) fun x19 => (x19, x14.2)) fun x19 =>
(bn (call 8 [x19.1] x19.2) fun x20 =>
(Res.elim x20.1 (fun x21 => (bn (extractD x21 0) fun x22 =>
(bn (extractD x21 1) fun x23 =>
(bn (extractD x21 2) fun x24 =>
(bn (binO .eql 0 false x6 x11) fun x25 =>
(bn (guardB true x25) fun x26 =>
(bn (ifb x26 (some x7)
(some (D.tup []))) fun x27 =>
(bn (guardB true x25) fun x28 =>
(bn (ifb x28 (some x12)
(some (D.tup []))) fun x29 =>
(bn (guardB true x25) fun x30 =>
(bn (ifb x30 (binO .eql 3 false x27 x29)
(some (D.tup []))) fun x31 =>
(bn (mp (D.bool? x25) fun x32 => (ifb x32 x31
(D.bool false))) fun x32 =>
(bn (guardB true x32) fun x33 =>
(bn (ifb x33 (some x16)
(some (D.tup []))) fun x34 =>
(bn (guardB true x32) fun x35 =>
(bn (ifb x35 (some x22)
(some (D.tup []))) fun x36 =>
(bn (guardB true x32) fun x37 =>
(bn (ifb x37 (call 9 [x34, x36] x20.2)
(some ((Res.ret (D.tup [])), x20.2))) fun x38 =>
(Res.elim x38.1 (fun x39 => (bn (mp (D.bool? x32) fun x40 => (ifb x40 x39
(D.bool false))) fun x40 =>
(bn (guardB true x40) fun x41 =>
(bn (ifb x41 (some x17)
(some (D.tup []))) fun x42 =>
(bn (guardB true x40) fun x43 =>
(bn (ifb x43 (some x23)
(some (D.tup []))) fun x44 =>
(bn (guardB true x40) fun x45 =>
(bn (ifb x45 (call 9 [x42, x44] x38.2)
(some ((Res.ret (D.tup [])), x38.2))) fun x46 =>
(Res.elim x46.1 (fun x47 => (bn (mp (D.bool? x40) fun x48 => (ifb x48 x47
(D.bool false))) fun x48 =>
(bn (guardB true x48) fun x49 =>
(bn (ifb x49 (some x18)
(some (D.tup []))) fun x50 =>
(bn (guardB true x48) fun x51 =>
(bn (ifb x51 (some x24)
(some (D.tup []))) fun x52 =>
(bn (guardB true x48) fun x53 =>
(bn (ifb x53 (binO .eql 3 false x50 x52)
(some (D.tup []))) fun x54 =>
(bn (mp (D.bool? x48) fun x55 => (ifb x55 x54
(D.bool false))) fun x55 =>
(bn (guardB true x55) fun x56 =>
(bn (ifb x56 (call 10 [] x46.2)
(some ((Res.ret (D.tup [])), x46.2))) fun x57 =>
(Res.elim x57.1 (fun x58 => (bn (mp (D.bool? x55) fun x59 => (ifb x59 x58
(D.bool false))) fun x59 =>
(leaveM M RetK.can A (Res.ret x59) x57.2))) (fun x58 => (leaveM M RetK.can A (Res.pan x58) x57.2)))))))))))))) (fun x47 => (leaveM M RetK.can A (Res.pan x47) x46.2))))))))))) (fun x39 => (leaveM M RetK.can A (Res.pan x39) x38.2))))))))))))))))))))) (fun x21 => (leaveM M RetK.can A (Res.pan x21) x20.2))))))))) (fun x15 => (leaveM M RetK.can A (Res.pan x15) x14.2)))))))) (fun x10 => (leaveM M RetK.can A (Res.pan x10) x9.2)))))))) (fun x5 => (leaveM M RetK.can A (Res.pan x5) x4.2)))))) (fun x2 => (leaveM M RetK.can A (Res.pan x2) x1.2)))))
theorem b3 (M : Mode) (call : CallT) (dcall : DcallT) (a0 a1 : D) (A : St) : bodyN M Tryz.prog rxHint kk call dcall 3 [a0, a1] A = f3 M call dcall a0.canon a1.canon A := by
  kernel_rfl
theorem r3 (a0 a1 : D) (A : St) : Run Tryz.prog rxA 3 [a0, a1] A = f3 mL (Run Tryz.prog rxA) (Dcall Tryz.prog rxA) a0.canon a1.canon A := (Run_eqN Tryz.prog rxA kk rfl rfl _ _).trans (b3 mL (Run Tryz.prog rxA) (Dcall Tryz.prog rxA) a0 a1 A)
end Go.Vm.Rx
