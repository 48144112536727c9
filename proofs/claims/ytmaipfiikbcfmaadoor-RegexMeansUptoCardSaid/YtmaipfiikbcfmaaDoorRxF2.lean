/- Written by a program: what the abstract run of each function comes to, one definition a function, and its equation. -/
import Derived.Test.YtmaipfiikbcfmaaDoorRxH
import Derived.KernelRfl
set_option linter.all false
namespace Go.Vm.Rx
open Go.Proofs
set_option maxRecDepth 100000
set_option linter.unusedVariables false
set_option maxHeartbeats 0
noncomputable def f50_s0 (M : Mode) (call : CallT) (dcall : DcallT) (A : St) (e : Env) (Av5 : St) : (Option ((Env × St) ⊕ (Res × St))) :=
(bn (lenStrO (e.g 0)) fun x0 =>
(bn (binO .lss 3 false (e.g 7) x0) fun x1 =>
(bn (guardB true x1) fun x2 =>
(bn (ifb x2 (some (e.g 0))
(some (D.tup []))) fun x3 =>
(bn (guardB true x1) fun x4 =>
(bn (ifb x4 (some (e.g 7))
(some (D.tup []))) fun x5 =>
(bn (guardB true x1) fun x6 =>
(bn (ifb x6 (indexStrO x3 x5)
(some (D.tup []))) fun x7 =>
(bn (guardB true x1) fun x8 =>
(bn (ifb x8 (binO .neq 3 true x7 (D.int IntKind.u8 (35 : Int)))
(some (D.tup []))) fun x9 =>
(bn (mp (D.bool? x1) fun x10 => (ifb x10 x9
(D.bool false))) fun x10 =>
(bn (D.bool? x10) fun x11 =>
(ifb x11 (bn (indexStrO (e.g 0) (e.g 7)) fun x12 =>
(bn (binO .eql 3 true x12 (D.int IntKind.u8 (32 : Int))) fun x13 =>
(bn (guardB false x13) fun x14 =>
(bn (ifb x14 (some (e.g 0))
(some (D.tup []))) fun x15 =>
(bn (guardB false x13) fun x16 =>
(bn (ifb x16 (some (e.g 7))
(some (D.tup []))) fun x17 =>
(bn (guardB false x13) fun x18 =>
(bn (ifb x18 (indexStrO x15 x17)
(some (D.tup []))) fun x19 =>
(bn (guardB false x13) fun x20 =>
(bn (ifb x20 (binO .eql 3 true x19 (D.int IntKind.u8 (9 : Int)))
(some (D.tup []))) fun x21 =>
(bn (mp (D.bool? x13) fun x22 => (ifb x22 (D.bool true)
 x21)) fun x22 =>
(bn (D.bool? x22) fun x23 =>
(ifb x23 (bn (binO .add 3 true (e.g 7) (n64 1)) fun x24 =>
(some (Sum.inl ((Env.mk (sp [(0, (e.g 0)), (0, (e.g 1)), (4, (e.g 6)), (0, x24)] 46) (e).df), Av5))))
(bn (call 69 [(e.g 0), (e.g 7)] Av5) fun x24 =>
(Res.elim x24.1 (fun x25 => (bn (binO .eql 3 true x25 (n64 0)) fun x26 =>
(bn (D.bool? x26) fun x27 =>
(ifb x27 (Option.map (Sum.inr ) (bn (leavesD dcall (fun (x28 : St) => (some (D.tup [(D.sl Own.full 0 []), (e.g 7)]))) (e).df none x24.2) fun x28 =>
(leaveM M RetK.can A x28.1 x28.2)))
(bn (binO .add 3 false (e.g 7) x25) fun x28 =>
(bn (sliceStrO (e.g 0) (some (e.g 7)) (some x28) none) fun x29 =>
(bn (binO .add 3 true (e.g 7) (n64 1)) fun x30 =>
(bn (Option.map D.agg (Option.bind (layCells false 1 0 [(D.str []), (n64 0), (n64 0)] x29) (fun (x31 : (List D)) => (Option.bind (layCells false 1 1 x31 (e.g 1)) (fun (x32 : (List D)) => (Option.bind (layCells false 1 2 x32 x30) (fun (x33 : (List D)) => (some x33)))))))) fun x31 =>
(bn (mp (Option.map (D.sl Own.full 3) (sliceParts 3 true 0 [(0, x31)])) fun x32 => (x32, x24.2)) fun x32 =>
(bn (appendO 3 32 (e.g 6) x32.1 x32.2) fun x33 =>
(bn (binO .add 3 false (e.g 7) x25) fun x34 =>
(some (Sum.inl ((Env.mk (sp [(0, (e.g 0)), (0, (e.g 1)), (4, x33.1), (0, x34)] 46) (e).df), x33.2)))))))))))))) (fun x25 => (Option.map (Sum.inr ) (bn (leavesD dcall (fun (x26 : St) => (some (D.tup [(e.g 4), (e.g 5)]))) (e).df (some x25) x24.2) fun x26 =>
(leaveM M RetK.can A x26.1 x26.2)))))))))))))))))))
(Option.map (Sum.inr ) (bn (leavesD dcall (fun (x12 : St) => (some (D.tup [(e.g 6), (n64 (-1))]))) (e).df none Av5) fun x12 =>
(leaveM M RetK.can A x12.1 x12.2))))))))))))))))
noncomputable def f50 (M : Mode) (call : CallT) (dcall : DcallT) (a0 : D) (a1 : D) (A : St) : (Option (Res × St)) :=
(@Mode.it M (Res × St) (f50_s0 M call dcall A) (Env.mk (sp [(0, a0), (0, a1), (4, (D.sl Own.full 0 [])), (0, (n64 0))] 46) []) A)
theorem b50 (M : Mode) (call : CallT) (dcall : DcallT) (a0 a1 : D) (A : St) : bodyN M Tryd.prog rxHint kk call dcall 50 [a0, a1] A = f50 M call dcall a0.canon a1.canon A := by
  kernel_rfl
noncomputable def f51_s0 (M : Mode) (call : CallT) (dcall : DcallT) (A : St) (e : Env) (Av5 : St) : (Option ((Env × St) ⊕ (Res × St))) :=
(bn (binO .lss 3 false (e.g 70) (e.g 69)) fun x0 =>
(bn (D.bool? x0) fun x1 =>
(ifb x1 (bn (indexAddrO 3 true (e.g 68) (e.g 70)) fun x2 =>
(bn (mp (loadO true 3 x2 Av5) fun x3 => (x3, Av5)) fun x3 =>
(bn (allocO [(n64 0), (D.str []), (D.sl Own.full 0 [])] x3.2) fun x4 =>
(bn (mp (storeO true 3 x4.1 x3.1 x4.2) fun x5 => ((D.tup []), x5)) fun x5 =>
(bn (mp (loadO true 3 x4.1 x5.2) fun x6 => (x6, x5.2)) fun x6 =>
(bn (call 51 [x6.1, (e.g 1)] x6.2) fun x7 =>
(Res.elim x7.1 (fun x8 => (bn (fieldAddrO 0 (e.g 2)) fun x9 =>
(bn (mp (loadO false 1 x9 x7.2) fun x10 => (x10, x7.2)) fun x10 =>
(bn (binO .eql 3 true x10.1 (n64 4)) fun x11 =>
(bn (D.bool? x11) fun x12 =>
(bn (ifb x12 (bn (call 73 [(e.g 5), x8] x10.2) fun x13 =>
(Res.elim x13.1 (fun x14 => (some (Sum.inl ((Env.mk (sp [(1, (e.g 1)), (0, (e.g 2)), (2, x14), (62, (e.g 68)), (0, (e.g 69)), (0, (e.g 70))] 39) (e).df), x13.2)))) (fun x14 => (Option.map (Sum.inr ) (Option.map (Sum.inr ) (bn (leavesD dcall (fun (x15 : St) => (some (e.g 4))) (e).df (some x14) x13.2) fun x15 =>
(leaveM M RetK.keep A x15.1 x15.2)))))))
(bn (binO .eql 3 true x10.1 (n64 5)) fun x13 =>
(bn (D.bool? x13) fun x14 =>
(bn (ifb x14 (bn (call 74 [(e.g 5), x8] x10.2) fun x15 =>
(Res.elim x15.1 (fun x16 => (some (Sum.inl ((Env.mk (sp [(1, (e.g 1)), (0, (e.g 2)), (2, x16), (62, (e.g 68)), (0, (e.g 69)), (0, (e.g 70))] 39) (e).df), x15.2)))) (fun x16 => (Option.map (Sum.inr ) (Option.map (Sum.inr ) (Option.map (Sum.inr ) (bn (leavesD dcall (fun (x17 : St) => (some (e.g 4))) (e).df (some x16) x15.2) fun x17 =>
(leaveM M RetK.keep A x17.1 x17.2))))))))
(bn (binO .eql 3 true x10.1 (n64 8)) fun x15 =>
(bn (D.bool? x15) fun x16 =>
(bn (ifb x16 (bn (lenSlO (e.g 1)) fun x17 =>
(bn (call 72 [x17] x10.2) fun x18 =>
(Res.elim x18.1 (fun x19 => (bn (call 74 [x19, x8] x18.2) fun x20 =>
(Res.elim x20.1 (fun x21 => (some (Sum.inl ((Env.mk (sp [(1, (e.g 1)), (0, (e.g 2)), (2, x21), (62, (e.g 68)), (0, (e.g 69)), (0, (e.g 70))] 39) (e).df), x20.2)))) (fun x21 => (Option.map (Sum.inr ) (Option.map (Sum.inr ) (Option.map (Sum.inr ) (Option.map (Sum.inr ) (bn (leavesD dcall (fun (x22 : St) => (some (e.g 4))) (e).df (some x21) x20.2) fun x22 =>
(leaveM M RetK.keep A x22.1 x22.2)))))))))) (fun x19 => (Option.map (Sum.inr ) (Option.map (Sum.inr ) (Option.map (Sum.inr ) (Option.map (Sum.inr ) (bn (leavesD dcall (fun (x20 : St) => (some (e.g 4))) (e).df (some x19) x18.2) fun x20 =>
(leaveM M RetK.keep A x20.1 x20.2))))))))))
(bn (binO .eql 3 true x10.1 (n64 7)) fun x17 =>
(bn (D.bool? x17) fun x18 =>
(bn (ifb x18 (bn (call 75 [x8] x10.2) fun x19 =>
(Res.elim x19.1 (fun x20 => (some (Sum.inl ((Env.mk (sp [(1, (e.g 1)), (0, (e.g 2)), (2, x20), (62, (e.g 68)), (0, (e.g 69)), (0, (e.g 70))] 39) (e).df), x19.2)))) (fun x20 => (Option.map (Sum.inr ) (Option.map (Sum.inr ) (Option.map (Sum.inr ) (Option.map (Sum.inr ) (Option.map (Sum.inr ) (bn (leavesD dcall (fun (x21 : St) => (some (e.g 4))) (e).df (some x20) x19.2) fun x21 =>
(leaveM M RetK.keep A x21.1 x21.2))))))))))
(bn (binO .eql 3 true x10.1 (n64 6)) fun x19 =>
(bn (D.bool? x19) fun x20 =>
(bn (ifb x20 (bn (lenSlO (e.g 1)) fun x21 =>
(bn (call 72 [x21] x10.2) fun x22 =>
(Res.elim x22.1 (fun x23 => (bn (call 75 [x8] x22.2) fun x24 =>
(Res.elim x24.1 (fun x25 => (bn (call 74 [x23, x25] x24.2) fun x26 =>
(Res.elim x26.1 (fun x27 => (some (Sum.inl ((Env.mk (sp [(1, (e.g 1)), (0, (e.g 2)), (2, x27), (62, (e.g 68)), (0, (e.g 69)), (0, (e.g 70))] 39) (e).df), x26.2)))) (fun x27 => (Option.map (Sum.inr ) (Option.map (Sum.inr ) (Option.map (Sum.inr ) (Option.map (Sum.inr ) (Option.map (Sum.inr ) (Option.map (Sum.inr ) (bn (leavesD dcall (fun (x28 : St) => (some (e.g 4))) (e).df (some x27) x26.2) fun x28 =>
(leaveM M RetK.keep A x28.1 x28.2)))))))))))) (fun x25 => (Option.map (Sum.inr ) (Option.map (Sum.inr ) (Option.map (Sum.inr ) (Option.map (Sum.inr ) (Option.map (Sum.inr ) (Option.map (Sum.inr ) (bn (leavesD dcall (fun (x26 : St) => (some (e.g 4))) (e).df (some x25) x24.2) fun x26 =>
(leaveM M RetK.keep A x26.1 x26.2)))))))))))) (fun x23 => (Option.map (Sum.inr ) (Option.map (Sum.inr ) (Option.map (Sum.inr ) (Option.map (Sum.inr ) (Option.map (Sum.inr ) (Option.map (Sum.inr ) (bn (leavesD dcall (fun (x24 : St) => (some (e.g 4))) (e).df (some x23) x22.2) fun x24 =>
(leaveM M RetK.keep A x24.1 x24.2))))))))))))
(some (Sum.inl ((Env.mk (sp [(1, (e.g 1)), (0, (e.g 2)), (2, (e.g 5)), (62, (e.g 68)), (0, (e.g 69)), (0, (e.g 70))] 39) (e).df), x10.2)))) fun x21 =>
(Sum.elim (fun (x22 : (Env × St)) => (some (Sum.inl ((Env.mk (sp [(1, (x22.1.g 1)), (0, (x22.1.g 2)), (2, (x22.1.g 5)), (62, (x22.1.g 68)), (0, (x22.1.g 69)), (0, (x22.1.g 70))] 39) (x22.1).df), x22.2)))) (fun (x22 : ((Env × St) ⊕ ((Env × St) ⊕ ((Env × St) ⊕ ((Env × St) ⊕ ((Env × St) ⊕ (Res × St))))))) => (some x22)) x21))))) fun x19 =>
(Sum.elim (fun (x20 : (Env × St)) => (some (Sum.inl ((Env.mk (sp [(1, (x20.1.g 1)), (0, (x20.1.g 2)), (2, (x20.1.g 5)), (62, (x20.1.g 68)), (0, (x20.1.g 69)), (0, (x20.1.g 70))] 39) (x20.1).df), x20.2)))) (fun (x20 : ((Env × St) ⊕ ((Env × St) ⊕ ((Env × St) ⊕ ((Env × St) ⊕ (Res × St)))))) => (some x20)) x19))))) fun x17 =>
(Sum.elim (fun (x18 : (Env × St)) => (some (Sum.inl ((Env.mk (sp [(1, (x18.1.g 1)), (0, (x18.1.g 2)), (2, (x18.1.g 5)), (62, (x18.1.g 68)), (0, (x18.1.g 69)), (0, (x18.1.g 70))] 39) (x18.1).df), x18.2)))) (fun (x18 : ((Env × St) ⊕ ((Env × St) ⊕ ((Env × St) ⊕ (Res × St))))) => (some x18)) x17))))) fun x15 =>
(Sum.elim (fun (x16 : (Env × St)) => (some (Sum.inl ((Env.mk (sp [(1, (x16.1.g 1)), (0, (x16.1.g 2)), (2, (x16.1.g 5)), (62, (x16.1.g 68)), (0, (x16.1.g 69)), (0, (x16.1.g 70))] 39) (x16.1).df), x16.2)))) (fun (x16 : ((Env × St) ⊕ ((Env × St) ⊕ (Res × St)))) => (some x16)) x15))))) fun x13 =>
(Sum.elim (fun (x14 : (Env × St)) => (bn (binO .add 3 true (x14.1.g 70) (n64 1)) fun x15 =>
(some (Sum.inl ((Env.mk (sp [(1, (x14.1.g 1)), (0, (x14.1.g 2)), (2, (x14.1.g 5)), (62, (x14.1.g 68)), (0, (x14.1.g 69)), (0, x15)] 39) (x14.1).df), x14.2))))) (fun (x14 : ((Env × St) ⊕ (Res × St))) => (some x14)) x13))))))) (fun x8 => (Option.map (Sum.inr ) (bn (leavesD dcall (fun (x9 : St) => (some (e.g 4))) (e).df (some x8) x7.2) fun x9 =>
(leaveM M RetK.keep A x9.1 x9.2)))))))))))
(Option.map (Sum.inr ) (bn (leavesD dcall (fun (x2 : St) => (some (e.g 5))) (e).df none Av5) fun x2 =>
(leaveM M RetK.keep A x2.1 x2.2))))))
noncomputable def f51_s1 (M : Mode) (call : CallT) (dcall : DcallT) (A : St) (e : Env) (Av5 : St) : (Option ((Env × St) ⊕ (Res × St))) :=
(bn (binO .lss 3 false (e.g 16) (e.g 15)) fun x0 =>
(bn (D.bool? x0) fun x1 =>
(ifb x1 (bn (indexAddrO 2 true (e.g 14) (e.g 16)) fun x2 =>
(bn (mp (loadO true 2 x2 Av5) fun x3 => (x3, Av5)) fun x3 =>
(bn (allocO [(D.str []), (D.sl Own.full 0 [])] x3.2) fun x4 =>
(bn (mp (storeO true 2 x4.1 x3.1 x4.2) fun x5 => ((D.tup []), x5)) fun x5 =>
(bn (fieldAddrO 0 (e.g 2)) fun x6 =>
(bn (mp (loadO false 1 x6 x5.2) fun x7 => (x7, x5.2)) fun x7 =>
(bn (binO .eql 3 true x7.1 (n64 1)) fun x8 =>
(bn (D.bool? x8) fun x9 =>
(bn (ifb x9 (bn (indexAddrO 1 false (e.g 5) (e.g 16)) fun x10 =>
(bn (mp (mp (loadO false 1 x10 x7.2) fun x11 => (x11, x7.2)) fun x11 => x11.1) fun x11 =>
(bn (binO .add 3 true (e.g 16) (n64 1)) fun x12 =>
(bn (fieldAddrO 0 x4.1) fun x13 =>
(bn (mp (mp (loadO false 1 x13 x7.2) fun x14 => (x14, x7.2)) fun x14 => x14.1) fun x14 =>
(bn (fieldAddrO 1 (e.g 2)) fun x15 =>
(bn (mp (mp (loadO false 1 x15 x7.2) fun x16 => (x16, x7.2)) fun x16 => x16.1) fun x16 =>
(bn (binO .eql 3 false x14 x16) fun x17 =>
(bn (indexAddrO 1 false x11 x12) fun x18 =>
(bn (mp (storeO false 1 x18 x17 x7.2) fun x19 => ((D.tup []), x19)) fun x19 =>
(@Mode.gs M ((Env × St) ⊕ ((Env × St) ⊕ (Res × St))) True true (some (Sum.inl ((Env.mk (sp [(1, (e.g 1)), (0, (e.g 2)), (2, (e.g 5)), (8, (e.g 14)), (0, (e.g 15)), (0, (e.g 16))] 93) (e).df), x19.2))))))))))))))
(bn (binO .eql 3 true x7.1 (n64 2)) fun x10 =>
(bn (D.bool? x10) fun x11 =>
(bn (ifb x11 (bn (indexAddrO 1 false (e.g 5) (e.g 16)) fun x12 =>
(bn (mp (mp (loadO false 1 x12 x7.2) fun x13 => (x13, x7.2)) fun x13 => x13.1) fun x13 =>
(bn (binO .add 3 true (e.g 16) (n64 1)) fun x14 =>
(bn (fieldAddrO 1 x4.1) fun x15 =>
(bn (mp (mp (loadO false 1 x15 x7.2) fun x16 => (x16, x7.2)) fun x16 => x16.1) fun x16 =>
(bn (fieldAddrO 1 (e.g 2)) fun x17 =>
(bn (mp (mp (loadO false 1 x17 x7.2) fun x18 => (x18, x7.2)) fun x18 => x18.1) fun x18 =>
(bn (call 71 [x16, x18] x7.2) fun x19 =>
(Res.elim x19.1 (fun x20 => (bn (indexAddrO 1 false x13 x14) fun x21 =>
(bn (mp (storeO false 1 x21 x20 x19.2) fun x22 => ((D.tup []), x22)) fun x22 =>
(@Mode.gs M ((Env × St) ⊕ ((Env × St) ⊕ ((Env × St) ⊕ (Res × St)))) ((sameAd x12 x7.2 x19.2) ∧ True) (Bool.and (sameAdB x12 x7.2 x19.2) true) (some (Sum.inl ((Env.mk (sp [(1, (e.g 1)), (0, (e.g 2)), (2, (e.g 5)), (8, (e.g 14)), (0, (e.g 15)), (0, (e.g 16))] 93) (e).df), x22.2))))))) (fun x20 => (@Mode.gs M ((Env × St) ⊕ ((Env × St) ⊕ ((Env × St) ⊕ (Res × St)))) ((sameAd x12 x7.2 x19.2) ∧ True) (Bool.and (sameAdB x12 x7.2 x19.2) true) (Option.map (Sum.inr ) (Option.map (Sum.inr ) (Option.map (Sum.inr ) (bn (leavesD dcall (fun (x21 : St) => (some (e.g 4))) (e).df (some x20) x19.2) fun x21 =>
(leaveM M RetK.keep A x21.1 x21.2))))))))))))))))
(bn (binO .eql 3 true x7.1 (n64 3)) fun x12 =>
(bn (D.bool? x12) fun x13 =>
(bn (ifb x13 (bn (indexAddrO 1 false (e.g 5) (e.g 16)) fun x14 =>
(bn (mp (loadO false 1 x14 x7.2) fun x15 => (x15, x7.2)) fun x15 =>
(bn (binO .add 3 true (e.g 16) (n64 1)) fun x16 =>
(bn (indexAddrO 1 false x15.1 x16) fun x17 =>
(bn (mp (storeO false 1 x17 (D.bool true) x15.2) fun x18 => ((D.tup []), x18)) fun x18 =>
(some (Sum.inl ((Env.mk (sp [(1, (e.g 1)), (0, (e.g 2)), (2, (e.g 5)), (8, (e.g 14)), (0, (e.g 15)), (0, (e.g 16))] 93) (e).df), x18.2))))))))
(some (Sum.inl ((Env.mk (sp [(1, (e.g 1)), (0, (e.g 2)), (2, (e.g 5)), (8, (e.g 14)), (0, (e.g 15)), (0, (e.g 16))] 93) (e).df), x7.2)))) fun x14 =>
(Sum.elim (fun (x15 : (Env × St)) => (some (Sum.inl ((Env.mk (sp [(1, (x15.1.g 1)), (0, (x15.1.g 2)), (2, (x15.1.g 5)), (8, (x15.1.g 14)), (0, (x15.1.g 15)), (0, (x15.1.g 16))] 93) (x15.1).df), x15.2)))) (fun (x15 : ((Env × St) ⊕ ((Env × St) ⊕ ((Env × St) ⊕ (Res × St))))) => (some x15)) x14))))) fun x12 =>
(Sum.elim (fun (x13 : (Env × St)) => (some (Sum.inl ((Env.mk (sp [(1, (x13.1.g 1)), (0, (x13.1.g 2)), (2, (x13.1.g 5)), (8, (x13.1.g 14)), (0, (x13.1.g 15)), (0, (x13.1.g 16))] 93) (x13.1).df), x13.2)))) (fun (x13 : ((Env × St) ⊕ ((Env × St) ⊕ (Res × St)))) => (some x13)) x12))))) fun x10 =>
(Sum.elim (fun (x11 : (Env × St)) => (bn (binO .add 3 true (x11.1.g 16) (n64 1)) fun x12 =>
(some (Sum.inl ((Env.mk (sp [(1, (x11.1.g 1)), (0, (x11.1.g 2)), (2, (x11.1.g 5)), (8, (x11.1.g 14)), (0, (x11.1.g 15)), (0, x12)] 93) (x11.1).df), x11.2))))) (fun (x11 : ((Env × St) ⊕ (Res × St))) => (some x11)) x10))))))))))
(Option.map (Sum.inr ) (bn (fieldAddrO 0 (e.g 2)) fun x2 =>
(bn (mp (loadO false 1 x2 Av5) fun x3 => (x3, Av5)) fun x3 =>
(bn (binO .eql 3 true x3.1 (n64 4)) fun x4 =>
(bn (D.bool? x4) fun x5 =>
(bn (ifb x5 (bn (lenSlO (e.g 1)) fun x6 =>
(bn (call 72 [x6] x3.2) fun x7 =>
(Res.elim x7.1 (fun x8 => (some (Sum.inl ((Env.mk (sp [(1, (e.g 1)), (0, (e.g 2)), (2, x8)] 104) (e).df), x7.2)))) (fun x8 => (Option.map (Sum.inr ) (bn (leavesD dcall (fun (x9 : St) => (some (e.g 4))) (e).df (some x8) x7.2) fun x9 =>
(leaveM M RetK.keep A x9.1 x9.2)))))))
(some (Sum.inl ((Env.mk (sp [(1, (e.g 1)), (0, (e.g 2)), (2, (e.g 5))] 104) (e).df), x3.2)))) fun x6 =>
(Sum.elim (fun (x7 : (Env × St)) => (bn (fieldAddrO 2 (x7.1.g 2)) fun x8 =>
(bn (mp (loadO false 1 x8 x7.2) fun x9 => (x9, x7.2)) fun x9 =>
(bn (lenSlO x9.1) fun x10 =>
(@Mode.it M (Res × St) (f51_s0 M call dcall A) (Env.mk (sp [(1, (x7.1.g 1)), (0, (x7.1.g 2)), (2, (x7.1.g 5)), (62, x9.1), (0, x10), (0, (n64 0))] 39) (x7.1).df) x9.2))))) (fun (x7 : (Res × St)) => (some x7)) x6))))))))))
noncomputable def f51 (M : Mode) (call : CallT) (dcall : DcallT) (a0 : D) (a1 : D) (A : St) : (Option (Res × St)) :=
(bn (boxO true a0 A) fun x0 =>
(bn (lenSlO a1) fun x1 =>
(bn (call 70 [x1] x0.2) fun x2 =>
(Res.elim x2.1 (fun x3 => (bn (lenSlO a1) fun x4 =>
(@Mode.it M (Res × St) (f51_s1 M call dcall A) (Env.mk (sp [(1, a1), (0, x0.1), (2, x3), (8, a1), (0, x4), (0, (n64 0))] 93) []) x2.2))) (fun x3 => (leaveM M RetK.keep A (Res.pan x3) x2.2))))))
theorem b51 (M : Mode) (call : CallT) (dcall : DcallT) (a0 a1 : D) (A : St) : bodyN M Tryd.prog rxHint kk call dcall 51 [a0, a1] A = f51 M call dcall a0.canon a1.canon A := by
  kernel_rfl
theorem r51 (a0 a1 : D) (A : St) : Run Tryd.prog rxA 51 [a0, a1] A = f51 mL (Run Tryd.prog rxA) (Dcall Tryd.prog rxA) a0.canon a1.canon A := (Run_eqN Tryd.prog rxA kk rfl rfl _ _).trans (b51 mL (Run Tryd.prog rxA) (Dcall Tryd.prog rxA) a0 a1 A)
noncomputable def f52_s0 (M : Mode) (call : CallT) (dcall : DcallT) (A : St) (e : Env) (Av5 : St) : (Option ((Env × St) ⊕ (Res × St))) :=
(bn (call 63 [(e.g 4)] Av5) fun x0 =>
(Res.elim x0.1 (fun x1 => (bn (guardB false x1) fun x2 =>
(bn (ifb x2 (some (e.g 4))
(some (D.tup []))) fun x3 =>
(bn (guardB false x1) fun x4 =>
(bn (ifb x4 (binO .eql 3 true x3 (D.str [(36 : UInt8)]))
(some (D.tup []))) fun x5 =>
(bn (mp (D.bool? x1) fun x6 => (ifb x6 (D.bool true)
 x5)) fun x6 =>
(bn (guardB false x6) fun x7 =>
(bn (ifb x7 (some (e.g 4))
(some (D.tup []))) fun x8 =>
(bn (guardB false x6) fun x9 =>
(bn (ifb x9 (binO .eql 3 true x8 (D.str [(46 : UInt8)]))
(some (D.tup []))) fun x10 =>
(bn (mp (D.bool? x6) fun x11 => (ifb x11 (D.bool true)
 x10)) fun x11 =>
(bn (guardB false x11) fun x12 =>
(bn (ifb x12 (some (e.g 4))
(some (D.tup []))) fun x13 =>
(bn (guardB false x11) fun x14 =>
(bn (ifb x14 (binO .eql 3 true x13 (D.str [(40 : UInt8)]))
(some (D.tup []))) fun x15 =>
(bn (mp (D.bool? x11) fun x16 => (ifb x16 (D.bool true)
 x15)) fun x16 =>
(bn (D.bool? x16) fun x17 =>
(ifb x17 (bn (call 76 [(e.g 0)] x0.2) fun x18 =>
(Res.elim x18.1 (fun x19 => (bn (mp (Option.map (D.sl Own.full 3) (sliceParts 3 true 0 [(0, x19)])) fun x20 => (x20, x18.2)) fun x20 =>
(bn (appendO 3 48 (e.g 3) x20.1 x20.2) fun x21 =>
(bn (nilCheckD (e.g 0)) fun x22 =>
(bn (fieldAddrO 0 x22) fun x23 =>
(bn (call 77 [x23] x21.2) fun x24 =>
(Res.elim x24.1 (fun x25 => (some (Sum.inl ((Env.mk (sp [(0, (e.g 0)), (1, (e.g 2)), (0, x21.1), (0, x25)] 38) (e).df), x24.2)))) (fun x25 => (Option.map (Sum.inr ) (bn (leavesD dcall (fun (x26 : St) => (Option.map packD (Option.bind (loadO true 3 (e.g 2) x26) (fun x27 => (some [x27]))))) (e).df (some x25) x24.2) fun x26 =>
(leaveM M RetK.can A x26.1 x26.2))))))))))) (fun x19 => (Option.map (Sum.inr ) (bn (leavesD dcall (fun (x20 : St) => (Option.map packD (Option.bind (loadO true 3 (e.g 2) x20) (fun x21 => (some [x21]))))) (e).df (some x19) x18.2) fun x20 =>
(leaveM M RetK.can A x20.1 x20.2))))))
(Option.map (Sum.inr ) (bn (lenSlO (e.g 3)) fun x18 =>
(bn (binO .eql 3 true x18 (n64 1)) fun x19 =>
(bn (D.bool? x19) fun x20 =>
(ifb x20 (bn (indexAddrO 3 true (e.g 3) (n64 0)) fun x21 =>
(bn (mp (loadO true 3 x21 x0.2) fun x22 => (x22, x0.2)) fun x22 =>
(bn (mp (storeO true 3 (e.g 2) x22.1 x22.2) fun x23 => ((D.tup []), x23)) fun x23 =>
(bn (leavesD dcall (fun (x24 : St) => (Option.map packD (Option.bind (loadO true 3 (e.g 2) x24) (fun x25 => (some [x25]))))) (e).df none x23.2) fun x24 =>
(leaveM M RetK.can A x24.1 x24.2)))))
(bn (call 54 [(n64 4), (e.g 3)] x0.2) fun x21 =>
(Res.elim x21.1 (fun x22 => (bn (mp (storeO true 3 (e.g 2) x22 x21.2) fun x23 => ((D.tup []), x23)) fun x23 =>
(bn (leavesD dcall (fun (x24 : St) => (Option.map packD (Option.bind (loadO true 3 (e.g 2) x24) (fun x25 => (some [x25]))))) (e).df none x23.2) fun x24 =>
(leaveM M RetK.can A x24.1 x24.2)))) (fun x22 => (bn (leavesD dcall (fun (x23 : St) => (Option.map packD (Option.bind (loadO true 3 (e.g 2) x23) (fun x24 => (some [x24]))))) (e).df (some x22) x21.2) fun x23 =>
(leaveM M RetK.can A x23.1 x23.2)))))))))))))))))))))))))))) (fun x1 => (Option.map (Sum.inr ) (bn (leavesD dcall (fun (x2 : St) => (Option.map packD (Option.bind (loadO true 3 (e.g 2) x2) (fun x3 => (some [x3]))))) (e).df (some x1) x0.2) fun x2 =>
(leaveM M RetK.can A x2.1 x2.2))))))
noncomputable def f52 (M : Mode) (call : CallT) (dcall : DcallT) (a0 : D) (A : St) : (Option (Res × St)) :=
(bn (allocO [(n64 0), (D.str []), (D.sl Own.full 0 [])] A) fun x0 =>
(bn (call 76 [a0] x0.2) fun x1 =>
(Res.elim x1.1 (fun x2 => (bn (mp (Option.map (D.sl Own.full 3) (sliceParts 3 true 0 [(0, x2)])) fun x3 => (x3, x1.2)) fun x3 =>
(bn (nilCheckD a0) fun x4 =>
(bn (fieldAddrO 0 x4) fun x5 =>
(bn (call 77 [x5] x3.2) fun x6 =>
(Res.elim x6.1 (fun x7 => (@Mode.it M (Res × St) (f52_s0 M call dcall A) (Env.mk (sp [(0, a0), (1, x0.1), (0, x3.1), (0, x7)] 38) []) x6.2)) (fun x7 => (leaveM M RetK.can A (Res.pan x7) x6.2)))))))) (fun x2 => (leaveM M RetK.can A (Res.pan x2) x1.2)))))
theorem b52 (M : Mode) (call : CallT) (dcall : DcallT) (a0 : D) (A : St) : bodyN M Tryd.prog rxHint kk call dcall 52 [a0] A = f52 M call dcall a0.canon A := by
  kernel_rfl
noncomputable def f53 (M : Mode) (call : CallT) (dcall : DcallT) (a0 : D) (a1 : D) (A : St) : (Option (Res × St)) :=
(bn (call 77 [a0] A) fun x0 =>
(Res.elim x0.1 (fun x1 => (bn (binO .eql 3 true x1 (D.str [])) fun x2 =>
(bn (guardB false x2) fun x3 =>
(bn (ifb x3 (some a1)
(some (D.tup []))) fun x4 =>
(bn (guardB false x2) fun x5 =>
(bn (ifb x5 (some x1)
(some (D.tup []))) fun x6 =>
(bn (guardB false x2) fun x7 =>
(bn (ifb x7 (call 71 [x4, x6] x0.2)
(some ((Res.ret (D.tup [])), x0.2))) fun x8 =>
(Res.elim x8.1 (fun x9 => (bn (guardB false x2) fun x10 =>
(bn (ifb x10 (unD UnOp.not x9)
(some (D.tup []))) fun x11 =>
(bn (mp (D.bool? x2) fun x12 => (ifb x12 (D.bool true)
 x11)) fun x12 =>
(bn (D.bool? x12) fun x13 =>
(ifb x13 (leaveM M RetK.can A (Res.ret (D.tup [(D.str []), (D.bool false)])) x8.2)
(bn (nilCheckD a0) fun x14 =>
(bn (fieldAddrO 1 x14) fun x15 =>
(bn (mp (loadO false 1 x15 x8.2) fun x16 => (x16, x8.2)) fun x16 =>
(bn (binO .add 3 true x16.1 (n64 1)) fun x17 =>
(bn (nilCheckD a0) fun x18 =>
(bn (fieldAddrO 1 x18) fun x19 =>
(bn (mp (storeO false 1 x19 x17 x16.2) fun x20 => ((D.tup []), x20)) fun x20 =>
(leaveM M RetK.can A (Res.ret (D.tup [x1, (D.bool true)])) x20.2)))))))))))))) (fun x9 => (leaveM M RetK.can A (Res.pan x9) x8.2))))))))))) (fun x1 => (leaveM M RetK.can A (Res.pan x1) x0.2))))
theorem b53 (M : Mode) (call : CallT) (dcall : DcallT) (a0 a1 : D) (A : St) : bodyN M Tryd.prog rxHint kk call dcall 53 [a0, a1] A = f53 M call dcall a0.canon a1.canon A := by
  kernel_rfl
noncomputable def f54_s0 (M : Mode) (call : CallT) (dcall : DcallT) (A : St) (e : Env) (Av5 : St) : (Option ((Env × St) ⊕ (Res × St))) :=
(bn (binO .lss 3 false (e.g 10) (e.g 9)) fun x0 =>
(bn (D.bool? x0) fun x1 =>
(ifb x1 (bn (indexAddrO 3 true (e.g 8) (e.g 10)) fun x2 =>
(bn (mp (loadO true 3 x2 Av5) fun x3 => (x3, Av5)) fun x3 =>
(bn (allocO [(n64 0), (D.str []), (D.sl Own.full 0 [])] x3.2) fun x4 =>
(bn (mp (storeO true 3 x4.1 x3.1 x4.2) fun x5 => ((D.tup []), x5)) fun x5 =>
(bn (fieldAddrO 0 x4.1) fun x6 =>
(bn (mp (loadO false 1 x6 x5.2) fun x7 => (x7, x5.2)) fun x7 =>
(bn (binO .eql 3 false x7.1 (e.g 0)) fun x8 =>
(bn (D.bool? x8) fun x9 =>
(bn (ifb x9 (bn (fieldAddrO 2 x4.1) fun x10 =>
(bn (mp (loadO false 1 x10 x7.2) fun x11 => (x11, x7.2)) fun x11 =>
(bn (appendO 3 48 (e.g 5) x11.1 x11.2) fun x12 =>
(some (Sum.inl ((Env.mk (sp [(0, (e.g 0)), (3, (e.g 4)), (0, x12.1), (2, (e.g 8)), (0, (e.g 9)), (0, (e.g 10)), (14, (e.g 25))] 10) (e).df), x12.2))))))
(bn (mp (loadO true 3 x4.1 x7.2) fun x10 => (x10, x7.2)) fun x10 =>
(bn (mp (Option.map (D.sl Own.full 3) (sliceParts 3 true 0 [(0, x10.1)])) fun x11 => (x11, x10.2)) fun x11 =>
(bn (appendO 3 48 (e.g 5) x11.1 x11.2) fun x12 =>
(some (Sum.inl ((Env.mk (sp [(0, (e.g 0)), (3, (e.g 4)), (0, x12.1), (2, (e.g 8)), (0, (e.g 9)), (0, (e.g 10)), (14, x12.1)] 10) (e).df), x12.2))))))) fun x10 =>
(Sum.elim (fun (x11 : (Env × St)) => (bn (binO .add 3 true (x11.1.g 10) (n64 1)) fun x12 =>
(some (Sum.inl ((Env.mk (sp [(0, (x11.1.g 0)), (3, (x11.1.g 4)), (0, (x11.1.g 5)), (2, (x11.1.g 8)), (0, (x11.1.g 9)), (0, x12), (14, (x11.1.g 25))] 10) (x11.1).df), x11.2))))) (fun (x11 : ((Env × St) ⊕ (Res × St))) => (some x11)) x10))))))))))
(Option.map (Sum.inr ) (bn (lenSlO (e.g 5)) fun x2 =>
(bn (binO .eql 3 true x2 (n64 1)) fun x3 =>
(bn (D.bool? x3) fun x4 =>
(ifb x4 (bn (indexAddrO 3 true (e.g 5) (n64 0)) fun x5 =>
(bn (mp (loadO true 3 x5 Av5) fun x6 => (x6, Av5)) fun x6 =>
(bn (mp (storeO true 3 (e.g 4) x6.1 x6.2) fun x7 => ((D.tup []), x7)) fun x7 =>
(bn (leavesD dcall (fun (x8 : St) => (Option.map packD (Option.bind (loadO true 3 (e.g 4) x8) (fun x9 => (some [x9]))))) (e).df none x7.2) fun x8 =>
(leaveM M RetK.can A x8.1 x8.2)))))
(bn (Option.map D.agg (Option.bind (layCells false 1 0 [(n64 0), (D.str []), (D.sl Own.full 0 [])] (e.g 0)) (fun (x5 : (List D)) => (Option.bind (layCells false 1 2 x5 (e.g 5)) (fun (x6 : (List D)) => (some x6)))))) fun x5 =>
(bn (mp (storeO true 3 (e.g 4) x5 Av5) fun x6 => ((D.tup []), x6)) fun x6 =>
(bn (leavesD dcall (fun (x7 : St) => (Option.map packD (Option.bind (loadO true 3 (e.g 4) x7) (fun x8 => (some [x8]))))) (e).df none x6.2) fun x7 =>
(leaveM M RetK.can A x7.1 x7.2))))))))))))
noncomputable def f54 (M : Mode) (call : CallT) (dcall : DcallT) (a0 : D) (a1 : D) (A : St) : (Option (Res × St)) :=
(bn (allocO [(n64 0), (D.str []), (D.sl Own.full 0 [])] A) fun x0 =>
(bn (lenSlO a1) fun x1 =>
(@Mode.it M (Res × St) (f54_s0 M call dcall A) (Env.mk (sp [(0, a0), (3, x0.1), (0, (D.sl Own.full 0 [])), (2, a1), (0, x1), (0, (n64 0)), (14, (D.tup []))] 10) []) x0.2)))
theorem b54 (M : Mode) (call : CallT) (dcall : DcallT) (a0 a1 : D) (A : St) : bodyN M Tryd.prog rxHint kk call dcall 54 [a0, a1] A = f54 M call dcall a0.canon a1.canon A := by
  kernel_rfl
noncomputable def f55_s0 (M : Mode) (call : CallT) (dcall : DcallT) (A : St) (e : Env) (Av5 : St) : (Option ((Env × St) ⊕ (Res × St))) :=
(bn (nilCheckD (e.g 0)) fun x0 =>
(bn (fieldAddrO 3 x0) fun x1 =>
(bn (mp (loadO false 1 x1 Av5) fun x2 => (x2, Av5)) fun x2 =>
(bn (binO .eql 3 true x2.1 (n64 0)) fun x3 =>
(bn (guardB true x3) fun x4 =>
(bn (ifb x4 (some (e.g 0))
(some (D.tup []))) fun x5 =>
(bn (guardB true x3) fun x6 =>
(bn (ifb x6 (call 79 [x5] x2.2)
(some ((Res.ret (D.tup [])), x2.2))) fun x7 =>
(Res.elim x7.1 (fun x8 => (bn (mp (D.bool? x3) fun x9 => (ifb x9 x8
(D.bool false))) fun x9 =>
(bn (D.bool? x9) fun x10 =>
(ifb x10 (bn (call 78 [(e.g 0)] x7.2) fun x11 =>
(Res.elim x11.1 (fun x12 => (bn (mp (Option.map (D.sl Own.full 3) (sliceParts 3 true 0 [(0, x12)])) fun x13 => (x13, x11.2)) fun x13 =>
(bn (appendO 3 48 (e.g 3) x13.1 x13.2) fun x14 =>
(some (Sum.inl ((Env.mk (sp [(0, (e.g 0)), (1, (e.g 2)), (0, x14.1)] 19) (e).df), x14.2)))))) (fun x12 => (Option.map (Sum.inr ) (bn (leavesD dcall (fun (x13 : St) => (Option.map packD (Option.bind (loadO true 3 (e.g 2) x13) (fun x14 => (some [x14]))))) (e).df (some x12) x11.2) fun x13 =>
(leaveM M RetK.can A x13.1 x13.2))))))
(Option.map (Sum.inr ) (bn (call 19 [(n64 4), (e.g 3)] x7.2) fun x11 =>
(Res.elim x11.1 (fun x12 => (bn (mp (storeO true 3 (e.g 2) x12 x11.2) fun x13 => ((D.tup []), x13)) fun x13 =>
(bn (leavesD dcall (fun (x14 : St) => (Option.map packD (Option.bind (loadO true 3 (e.g 2) x14) (fun x15 => (some [x15]))))) (e).df none x13.2) fun x14 =>
(leaveM M RetK.can A x14.1 x14.2)))) (fun x12 => (bn (leavesD dcall (fun (x13 : St) => (Option.map packD (Option.bind (loadO true 3 (e.g 2) x13) (fun x14 => (some [x14]))))) (e).df (some x12) x11.2) fun x13 =>
(leaveM M RetK.can A x13.1 x13.2)))))))))) (fun x8 => (Option.map (Sum.inr ) (bn (leavesD dcall (fun (x9 : St) => (Option.map packD (Option.bind (loadO true 3 (e.g 2) x9) (fun x10 => (some [x10]))))) (e).df (some x8) x7.2) fun x9 =>
(leaveM M RetK.can A x9.1 x9.2)))))))))))))
noncomputable def f55 (M : Mode) (call : CallT) (dcall : DcallT) (a0 : D) (A : St) : (Option (Res × St)) :=
(bn (allocO [(n64 0), (D.str []), (D.sl Own.full 0 [])] A) fun x0 =>
(bn (call 78 [a0] x0.2) fun x1 =>
(Res.elim x1.1 (fun x2 => (bn (mp (Option.map (D.sl Own.full 3) (sliceParts 3 true 0 [(0, x2)])) fun x3 => (x3, x1.2)) fun x3 =>
(@Mode.it M (Res × St) (f55_s0 M call dcall A) (Env.mk (sp [(0, a0), (1, x0.1), (0, x3.1)] 19) []) x3.2))) (fun x2 => (leaveM M RetK.can A (Res.pan x2) x1.2)))))
theorem b55 (M : Mode) (call : CallT) (dcall : DcallT) (a0 : D) (A : St) : bodyN M Tryd.prog rxHint kk call dcall 55 [a0] A = f55 M call dcall a0.canon A := by
  kernel_rfl
noncomputable def f56 (M : Mode) (call : CallT) (dcall : DcallT) (a0 : D) (A : St) : (Option (Res × St)) :=
(bn (nilCheckD a0) fun x0 =>
(bn (fieldAddrO 1 x0) fun x1 =>
(bn (mp (mp (loadO false 1 x1 A) fun x2 => (x2, A)) fun x2 => x2.1) fun x2 =>
(bn (nilCheckD a0) fun x3 =>
(bn (fieldAddrO 0 x3) fun x4 =>
(bn (mp (mp (loadO false 1 x4 A) fun x5 => (x5, A)) fun x5 => x5.1) fun x5 =>
(bn (lenSlO x5) fun x6 =>
(bn (binO .lss 3 false x2 x6) fun x7 =>
(@Mode.gs M (Res × St) True true (bn (D.bool? x7) fun x8 =>
(ifb x8 (bn (nilCheckD a0) fun x9 =>
(bn (fieldAddrO 0 x9) fun x10 =>
(bn (mp (mp (loadO false 1 x10 A) fun x11 => (x11, A)) fun x11 => x11.1) fun x11 =>
(bn (nilCheckD a0) fun x12 =>
(bn (fieldAddrO 1 x12) fun x13 =>
(bn (mp (mp (loadO false 1 x13 A) fun x14 => (x14, A)) fun x14 => x14.1) fun x14 =>
(bn (indexAddrO 3 true x11 x14) fun x15 =>
(bn (fieldAddrO 0 x15) fun x16 =>
(bn (mp (mp (loadO false 1 x16 A) fun x17 => (x17, A)) fun x17 => x17.1) fun x17 =>
(@Mode.gs M (Res × St) True true (leaveM M RetK.can A (Res.ret x17) A)))))))))))
(leaveM M RetK.can A (Res.ret (D.str [])) A))))))))))))
theorem b56 (M : Mode) (call : CallT) (dcall : DcallT) (a0 : D) (A : St) : bodyN M Tryd.prog rxHint kk call dcall 56 [a0] A = f56 M call dcall a0.canon A := by
  kernel_rfl
noncomputable def f57 (M : Mode) (call : CallT) (dcall : DcallT) (a0 : D) (A : St) : (Option (Res × St)) :=
(bn (boxO true a0 A) fun x0 =>
(bn (fieldAddrO 2 x0.1) fun x1 =>
(bn (mp (loadO false 1 x1 x0.2) fun x2 => (x2, x0.2)) fun x2 =>
(bn (lenSlO x2.1) fun x3 =>
(bn (fieldAddrO 0 x0.1) fun x4 =>
(bn (mp (loadO false 1 x4 x2.2) fun x5 => (x5, x2.2)) fun x5 =>
(bn (binO .eql 3 true x5.1 (n64 1)) fun x6 =>
(bn (D.bool? x6) fun x7 =>
(bn (ifb x7 (some (Sum.inl ((Env.mk (sp [(1, x0.1), (1, x3), (4, x5.1), (0, (D.bool true))] 57) []), x5.2)))
(bn (binO .eql 3 true x5.1 (n64 2)) fun x8 =>
(some (Sum.inl ((Env.mk (sp [(1, x0.1), (1, x3), (4, x5.1), (0, x8)] 57) []), x5.2))))) fun x8 =>
(Sum.elim (fun (x9 : (Env × St)) => (bn (D.bool? (x9.1.g 9)) fun x10 =>
(ifb x10 (bn (fieldAddrO 1 (x9.1.g 1)) fun x11 =>
(bn (mp (loadO false 1 x11 x9.2) fun x12 => (x12, x9.2)) fun x12 =>
(bn (call 80 [x12.1] x12.2) fun x13 =>
(Res.elim x13.1 (fun x14 => (bn (guardB true x14) fun x15 =>
(bn (ifb x15 (some (x9.1.g 3))
(some (D.tup []))) fun x16 =>
(bn (guardB true x14) fun x17 =>
(bn (ifb x17 (binO .eql 3 true x16 (n64 0))
(some (D.tup []))) fun x18 =>
(bn (mp (D.bool? x14) fun x19 => (ifb x19 x18
(D.bool false))) fun x19 =>
(bn (leavesD dcall (fun (x20 : St) => (some x19)) (x9.1).df none x13.2) fun x20 =>
(leaveM M RetK.can A x20.1 x20.2)))))))) (fun x14 => (bn (leavesD dcall (fun (x15 : St) => (some (x9.1.g 2))) (x9.1).df (some x14) x13.2) fun x15 =>
(leaveM M RetK.can A x15.1 x15.2)))))))
(bn (binO .eql 3 true (x9.1.g 8) (n64 3)) fun x11 =>
(bn (D.bool? x11) fun x12 =>
(ifb x12 (bn (fieldAddrO 1 (x9.1.g 1)) fun x13 =>
(bn (mp (loadO false 1 x13 x9.2) fun x14 => (x14, x9.2)) fun x14 =>
(bn (binO .eql 3 true x14.1 (D.str [])) fun x15 =>
(bn (guardB true x15) fun x16 =>
(bn (ifb x16 (some (x9.1.g 3))
(some (D.tup []))) fun x17 =>
(bn (guardB true x15) fun x18 =>
(bn (ifb x18 (binO .eql 3 true x17 (n64 0))
(some (D.tup []))) fun x19 =>
(bn (mp (D.bool? x15) fun x20 => (ifb x20 x19
(D.bool false))) fun x20 =>
(bn (leavesD dcall (fun (x21 : St) => (some x20)) (x9.1).df none x14.2) fun x21 =>
(leaveM M RetK.can A x21.1 x21.2))))))))))
(bn (binO .eql 3 true (x9.1.g 8) (n64 4)) fun x13 =>
(bn (D.bool? x13) fun x14 =>
(ifb x14 (bn (fieldAddrO 1 (x9.1.g 1)) fun x15 =>
(bn (mp (loadO false 1 x15 x9.2) fun x16 => (x16, x9.2)) fun x16 =>
(bn (binO .eql 3 true x16.1 (D.str [])) fun x17 =>
(bn (guardB true x17) fun x18 =>
(bn (ifb x18 (some (x9.1.g 3))
(some (D.tup []))) fun x19 =>
(bn (guardB true x17) fun x20 =>
(bn (ifb x20 (binO .neq 3 true x19 (n64 1))
(some (D.tup []))) fun x21 =>
(bn (mp (D.bool? x17) fun x22 => (ifb x22 x21
(D.bool false))) fun x22 =>
(bn (guardB true x22) fun x23 =>
(bn (ifb x23 (fieldAddrO 2 (x9.1.g 1))
(some (D.tup []))) fun x24 =>
(bn (guardB true x22) fun x25 =>
(bn (ifb x25 (mp (loadO false 1 x24 x16.2) fun x26 => (x26, x16.2))
(some ((D.tup []), x16.2))) fun x26 =>
(bn (guardB true x22) fun x27 =>
(bn (ifb x27 (call 81 [x26.1, (n64 4)] x26.2)
(some ((Res.ret (D.tup [])), x26.2))) fun x28 =>
(Res.elim x28.1 (fun x29 => (bn (mp (D.bool? x22) fun x30 => (ifb x30 x29
(D.bool false))) fun x30 =>
(bn (leavesD dcall (fun (x31 : St) => (some x30)) (x9.1).df none x28.2) fun x31 =>
(leaveM M RetK.can A x31.1 x31.2)))) (fun x29 => (bn (leavesD dcall (fun (x30 : St) => (some (x9.1.g 2))) (x9.1).df (some x29) x28.2) fun x30 =>
(leaveM M RetK.can A x30.1 x30.2))))))))))))))))))
(bn (binO .eql 3 true (x9.1.g 8) (n64 5)) fun x15 =>
(bn (D.bool? x15) fun x16 =>
(ifb x16 (bn (fieldAddrO 1 (x9.1.g 1)) fun x17 =>
(bn (mp (loadO false 1 x17 x9.2) fun x18 => (x18, x9.2)) fun x18 =>
(bn (binO .eql 3 true x18.1 (D.str [])) fun x19 =>
(bn (guardB true x19) fun x20 =>
(bn (ifb x20 (some (x9.1.g 3))
(some (D.tup []))) fun x21 =>
(bn (guardB true x19) fun x22 =>
(bn (ifb x22 (binO .geq 3 true x21 (n64 2))
(some (D.tup []))) fun x23 =>
(bn (mp (D.bool? x19) fun x24 => (ifb x24 x23
(D.bool false))) fun x24 =>
(bn (guardB true x24) fun x25 =>
(bn (ifb x25 (fieldAddrO 2 (x9.1.g 1))
(some (D.tup []))) fun x26 =>
(bn (guardB true x24) fun x27 =>
(bn (ifb x27 (mp (loadO false 1 x26 x18.2) fun x28 => (x28, x18.2))
(some ((D.tup []), x18.2))) fun x28 =>
(bn (guardB true x24) fun x29 =>
(bn (ifb x29 (call 81 [x28.1, (n64 5)] x28.2)
(some ((Res.ret (D.tup [])), x28.2))) fun x30 =>
(Res.elim x30.1 (fun x31 => (bn (mp (D.bool? x24) fun x32 => (ifb x32 x31
(D.bool false))) fun x32 =>
(bn (leavesD dcall (fun (x33 : St) => (some x32)) (x9.1).df none x30.2) fun x33 =>
(leaveM M RetK.can A x33.1 x33.2)))) (fun x31 => (bn (leavesD dcall (fun (x32 : St) => (some (x9.1.g 2))) (x9.1).df (some x31) x30.2) fun x32 =>
(leaveM M RetK.can A x32.1 x32.2))))))))))))))))))
(bn (binO .eql 3 true (x9.1.g 8) (n64 6)) fun x17 =>
(bn (D.bool? x17) fun x18 =>
(bn (ifb x18 (some (Sum.inl ((Env.mk (sp [(1, (x9.1.g 1)), (1, (x9.1.g 3)), (52, (D.bool true))] 10) (x9.1).df), x9.2)))
(bn (binO .eql 3 true (x9.1.g 8) (n64 7)) fun x19 =>
(bn (D.bool? x19) fun x20 =>
(bn (ifb x20 (some (Sum.inl ((Env.mk (sp [(1, (x9.1.g 1)), (1, (x9.1.g 3)), (52, (D.bool true))] 10) (x9.1).df), x9.2)))
(bn (binO .eql 3 true (x9.1.g 8) (n64 8)) fun x21 =>
(some (Sum.inl ((Env.mk (sp [(1, (x9.1.g 1)), (1, (x9.1.g 3)), (52, x21)] 10) (x9.1).df), x9.2))))) fun x21 =>
(Sum.elim (fun (x22 : (Env × St)) => (some (Sum.inl ((Env.mk (sp [(1, (x22.1.g 1)), (1, (x22.1.g 3)), (52, (x22.1.g 56))] 10) (x22.1).df), x22.2)))) (fun (x22 : ((Env × St) ⊕ (Res × St))) => (some x22)) x21))))) fun x19 =>
(Sum.elim (fun (x20 : (Env × St)) => (bn (D.bool? (x20.1.g 56)) fun x21 =>
(ifb x21 (bn (fieldAddrO 1 (x20.1.g 1)) fun x22 =>
(bn (mp (loadO false 1 x22 x20.2) fun x23 => (x23, x20.2)) fun x23 =>
(bn (binO .eql 3 true x23.1 (D.str [])) fun x24 =>
(bn (guardB true x24) fun x25 =>
(bn (ifb x25 (some (x20.1.g 3))
(some (D.tup []))) fun x26 =>
(bn (guardB true x24) fun x27 =>
(bn (ifb x27 (binO .eql 3 true x26 (n64 1))
(some (D.tup []))) fun x28 =>
(bn (mp (D.bool? x24) fun x29 => (ifb x29 x28
(D.bool false))) fun x29 =>
(bn (leavesD dcall (fun (x30 : St) => (some x29)) (x20.1).df none x23.2) fun x30 =>
(leaveM M RetK.can A x30.1 x30.2))))))))))
(bn (leavesD dcall (fun (x22 : St) => (some (D.bool false))) (x20.1).df none x20.2) fun x22 =>
(leaveM M RetK.can A x22.1 x22.2))))) (fun (x20 : (Res × St)) => (some x20)) x19)))))))))))))))) (fun (x9 : (Res × St)) => (some x9)) x8))))))))))
theorem b57 (M : Mode) (call : CallT) (dcall : DcallT) (a0 : D) (A : St) : bodyN M Tryd.prog rxHint kk call dcall 57 [a0] A = f57 M call dcall a0.canon A := by
  kernel_rfl
theorem r57 (a0 : D) (A : St) : Run Tryd.prog rxA 57 [a0] A = f57 mL (Run Tryd.prog rxA) (Dcall Tryd.prog rxA) a0.canon A := (Run_eqN Tryd.prog rxA kk rfl rfl _ _).trans (b57 mL (Run Tryd.prog rxA) (Dcall Tryd.prog rxA) a0 A)
noncomputable def f58_s0 (M : Mode) (call : CallT) (dcall : DcallT) (A : St) (e : Env) (Av5 : St) : (Option ((Env × St) ⊕ (Res × St))) :=
(bn (binO .lss 3 false (e.g 38) (e.g 37)) fun x0 =>
(bn (D.bool? x0) fun x1 =>
(ifb x1 (bn (indexAddrO 3 true (e.g 36) (e.g 38)) fun x2 =>
(bn (mp (loadO true 3 x2 Av5) fun x3 => (x3, Av5)) fun x3 =>
(bn (allocO [(D.str []), (n64 0), (n64 0)] x3.2) fun x4 =>
(bn (mp (storeO true 3 x4.1 x3.1 x4.2) fun x5 => ((D.tup []), x5)) fun x5 =>
(bn (fieldAddrO 0 x4.1) fun x6 =>
(bn (mp (mp (loadO false 1 x6 x5.2) fun x7 => (x7, x5.2)) fun x7 => x7.1) fun x7 =>
(bn (indexAddrO 1 false (e.g 1) (e.g 38)) fun x8 =>
(bn (mp (mp (loadO false 1 x8 x5.2) fun x9 => (x9, x5.2)) fun x9 => x9.1) fun x9 =>
(bn (binO .neq 3 false x7 x9) fun x10 =>
(@Mode.gs M ((Env × St) ⊕ (Res × St)) True true (bn (D.bool? x10) fun x11 =>
(ifb x11 (Option.map (Sum.inr ) (bn (leavesD dcall (fun (x12 : St) => (some (D.bool false))) (e).df none x5.2) fun x12 =>
(leaveM M RetK.can A x12.1 x12.2)))
(bn (binO .add 3 true (e.g 38) (n64 1)) fun x12 =>
(@Mode.gk M ((Env × St) ⊕ (Res × St)) Av5 x5.2 (some (Sum.inl ((Env.mk (sp [(1, (D.shut (List.length Av5) (e.g 1))), (34, (D.shut (List.length Av5) (e.g 36))), (0, (D.shut (List.length Av5) (e.g 37))), (0, (D.shut (List.length Av5) x12))] 12) (List.map (fun (x13 : (D × (List D))) => ((D.shut (List.length Av5) x13.1), (D.shutL (List.length Av5) x13.2))) (e).df)), (List.take (List.length Av5) x5.2))))))))))))))))))
(Option.map (Sum.inr ) (bn (leavesD dcall (fun (x2 : St) => (some (D.bool true))) (e).df none Av5) fun x2 =>
(leaveM M RetK.can A x2.1 x2.2))))))
noncomputable def f58 (M : Mode) (call : CallT) (dcall : DcallT) (a0 : D) (a1 : D) (A : St) : (Option (Res × St)) :=
(bn (call 26 [a0] A) fun x0 =>
(Res.elim x0.1 (fun x1 => (bn (extractD x1 0) fun x2 =>
(bn (extractD x1 1) fun x3 =>
(bn (extractD x1 2) fun x4 =>
(bn (extractD x1 3) fun x5 =>
(bn (binO .neq 3 true x5 (n64 0)) fun x6 =>
(bn (guardB false x6) fun x7 =>
(bn (ifb x7 (some x2)
(some (D.tup []))) fun x8 =>
(bn (guardB false x6) fun x9 =>
(bn (ifb x9 (lenSlO x8)
(some (D.tup []))) fun x10 =>
(bn (guardB false x6) fun x11 =>
(bn (ifb x11 (binO .neq 3 true x10 (n64 1))
(some (D.tup []))) fun x12 =>
(bn (mp (D.bool? x6) fun x13 => (ifb x13 (D.bool true)
 x12)) fun x13 =>
(bn (guardB false x13) fun x14 =>
(bn (ifb x14 (some x2)
(some (D.tup []))) fun x15 =>
(bn (guardB false x13) fun x16 =>
(bn (ifb x16 (indexAddrO 1 false x15 (n64 0))
(some (D.tup []))) fun x17 =>
(bn (guardB false x13) fun x18 =>
(bn (ifb x18 (mp (loadO false 1 x17 x0.2) fun x19 => (x19, x0.2))
(some ((D.tup []), x0.2))) fun x19 =>
(bn (guardB false x13) fun x20 =>
(bn (ifb x20 (lenSlO x19.1)
(some (D.tup []))) fun x21 =>
(bn (guardB false x13) fun x22 =>
(bn (ifb x22 (some a1)
(some (D.tup []))) fun x23 =>
(bn (guardB false x13) fun x24 =>
(bn (ifb x24 (lenSlO x23)
(some (D.tup []))) fun x25 =>
(bn (guardB false x13) fun x26 =>
(bn (ifb x26 (binO .neq 3 false x21 x25)
(some (D.tup []))) fun x27 =>
(bn (mp (D.bool? x13) fun x28 => (ifb x28 (D.bool true)
 x27)) fun x28 =>
(bn (D.bool? x28) fun x29 =>
(ifb x29 (leaveM M RetK.can A (Res.ret (D.bool false)) x19.2)
(bn (indexAddrO 1 false x2 (n64 0)) fun x30 =>
(bn (mp (loadO false 1 x30 x19.2) fun x31 => (x31, x19.2)) fun x31 =>
(bn (lenSlO x31.1) fun x32 =>
(@Mode.it M (Res × St) (f58_s0 M call dcall A) (Env.mk (sp [(1, a1), (34, x31.1), (0, x32), (0, (n64 0))] 12) []) x31.2)))))))))))))))))))))))))))))))))) (fun x1 => (leaveM M RetK.can A (Res.pan x1) x0.2))))
theorem b58 (M : Mode) (call : CallT) (dcall : DcallT) (a0 a1 : D) (A : St) : bodyN M Tryd.prog rxHint kk call dcall 58 [a0, a1] A = f58 M call dcall a0.canon a1.canon A := by
  kernel_rfl
noncomputable def f59 (M : Mode) (call : CallT) (dcall : DcallT) (a0 : D) (A : St) : (Option (Res × St)) :=
(bn (boxO true a0 A) fun x0 =>
(bn (fieldAddrO 0 x0.1) fun x1 =>
(bn (mp (loadO false 1 x1 x0.2) fun x2 => (x2, x0.2)) fun x2 =>
(bn (binO .eql 3 true x2.1 (n64 5)) fun x3 =>
(bn (D.bool? x3) fun x4 =>
(ifb x4 (leaveM M RetK.can A (Res.ret (n64 1)) x2.2)
(bn (fieldAddrO 0 x0.1) fun x5 =>
(bn (mp (loadO false 1 x5 x2.2) fun x6 => (x6, x2.2)) fun x6 =>
(bn (binO .eql 3 true x6.1 (n64 4)) fun x7 =>
(bn (guardB true x7) fun x8 =>
(bn (ifb x8 (fieldAddrO 2 x0.1)
(some (D.tup []))) fun x9 =>
(bn (guardB true x7) fun x10 =>
(bn (ifb x10 (mp (loadO false 1 x9 x6.2) fun x11 => (x11, x6.2))
(some ((D.tup []), x6.2))) fun x11 =>
(bn (guardB true x7) fun x12 =>
(bn (ifb x12 (lenSlO x11.1)
(some (D.tup []))) fun x13 =>
(bn (guardB true x7) fun x14 =>
(bn (ifb x14 (binO .gtr 3 true x13 (n64 0))
(some (D.tup []))) fun x15 =>
(bn (mp (D.bool? x7) fun x16 => (ifb x16 x15
(D.bool false))) fun x16 =>
(bn (D.bool? x16) fun x17 =>
(ifb x17 (leaveM M RetK.can A (Res.ret (n64 2)) x11.2)
(leaveM M RetK.can A (Res.ret (n64 3)) x11.2)))))))))))))))))))))
theorem b59 (M : Mode) (call : CallT) (dcall : DcallT) (a0 : D) (A : St) : bodyN M Tryd.prog rxHint kk call dcall 59 [a0] A = f59 M call dcall a0.canon A := by
  kernel_rfl
noncomputable def f60_s0 (M : Mode) (call : CallT) (dcall : DcallT) (A : St) (e : Env) (Av5 : St) : (Option ((Env × St) ⊕ (Res × St))) :=
(bn (binO .lss 3 false (e.g 27) (e.g 26)) fun x0 =>
(bn (D.bool? x0) fun x1 =>
(ifb x1 (bn (indexAddrO 1 false (e.g 25) (e.g 27)) fun x2 =>
(bn (mp (loadO false 1 x2 Av5) fun x3 => (x3, Av5)) fun x3 =>
(bn (appendO 1 16 (e.g 6) x3.1 x3.2) fun x4 =>
(bn (binO .add 3 true (e.g 27) (n64 1)) fun x5 =>
(some (Sum.inl ((Env.mk (sp [(6, x4.1), (18, (e.g 25)), (0, (e.g 26)), (0, x5)] 8) (e).df), x4.2)))))))
(Option.map (Sum.inr ) (bn (leavesD dcall (fun (x2 : St) => (some (e.g 6))) (e).df none Av5) fun x2 =>
(leaveM M RetK.own A x2.1 x2.2))))))
noncomputable def f60_s1 (M : Mode) (call : CallT) (dcall : DcallT) (A : St) (e : Env) (Av5 : St) : (Option ((Env × St) ⊕ (Res × St))) :=
(bn (binO .lss 3 false (e.g 11) (e.g 10)) fun x0 =>
(bn (D.bool? x0) fun x1 =>
(ifb x1 (bn (indexAddrO 1 false (e.g 9) (e.g 11)) fun x2 =>
(bn (mp (loadO false 1 x2 Av5) fun x3 => (x3, Av5)) fun x3 =>
(bn (lenSlO x3.1) fun x4 =>
(bn (binO .add 3 false (e.g 3) x4) fun x5 =>
(bn (binO .lss 3 true x5 (n64 0)) fun x6 =>
(bn (D.bool? x6) fun x7 =>
(bn (ifb x7 (Option.map (Sum.inr ) (Option.map (Sum.inr ) (bn (leavesD dcall (fun (x8 : St) => (some (e.g 2))) (e).df (some (D.iface 9 (D.str [(108 : UInt8), (101 : UInt8), (110 : UInt8), (32 : UInt8), (111 : UInt8), (117 : UInt8), (116 : UInt8), (32 : UInt8), (111 : UInt8), (102 : UInt8), (32 : UInt8), (114 : UInt8), (97 : UInt8), (110 : UInt8), (103 : UInt8), (101 : UInt8)]))) x3.2) fun x8 =>
(leaveM M RetK.own A x8.1 x8.2))))
(some (Sum.inl ((Env.mk (sp [(0, (e.g 0)), (2, x5), (5, (e.g 9)), (0, (e.g 10)), (0, (e.g 11))] 24) (e).df), x3.2)))) fun x8 =>
(Sum.elim (fun (x9 : (Env × St)) => (bn (binO .add 3 true (x9.1.g 11) (n64 1)) fun x10 =>
(some (Sum.inl ((Env.mk (sp [(0, (x9.1.g 0)), (2, (x9.1.g 3)), (5, (x9.1.g 9)), (0, (x9.1.g 10)), (0, x10)] 24) (x9.1).df), x9.2))))) (fun (x9 : ((Env × St) ⊕ (Res × St))) => (some x9)) x8))))))))
(Option.map (Sum.inr ) (bn (call 82 [(D.sl Own.full 0 []), (e.g 3)] Av5) fun x2 =>
(Res.elim x2.1 (fun x3 => (bn (lenSlO (e.g 0)) fun x4 =>
(@Mode.it M (Res × St) (f60_s0 M call dcall A) (Env.mk (sp [(6, x3), (18, (e.g 0)), (0, x4), (0, (n64 0))] 8) (e).df) x2.2))) (fun x3 => (bn (leavesD dcall (fun (x4 : St) => (some (e.g 2))) (e).df (some x3) x2.2) fun x4 =>
(leaveM M RetK.own A x4.1 x4.2)))))))))
noncomputable def f60 (M : Mode) (call : CallT) (dcall : DcallT) (a0 : D) (A : St) : (Option (Res × St)) :=
(bn (lenSlO a0) fun x0 =>
(@Mode.it M (Res × St) (f60_s1 M call dcall A) (Env.mk (sp [(0, a0), (2, (n64 0)), (5, a0), (0, x0), (0, (n64 0))] 24) []) A))
theorem b60 (M : Mode) (call : CallT) (dcall : DcallT) (a0 : D) (A : St) : bodyN M Tryd.prog rxHint kk call dcall 60 [a0] A = f60 M call dcall a0.canon A := by
  kernel_rfl
noncomputable def f61 (M : Mode) (call : CallT) (dcall : DcallT) (a0 : D) (A : St) : (Option (Res × St)) :=
(bn (call 83 [a0] A) fun x0 =>
(Res.elim x0.1 (fun x1 => (bn (D.bool? x1) fun x2 =>
(ifb x2 (leaveM M RetK.can A (Res.ret (D.bool true)) x0.2)
(bn (call 50 [a0, (n64 1)] x0.2) fun x3 =>
(Res.elim x3.1 (fun x4 => (bn (extractD x4 0) fun x5 =>
(bn (extractD x4 1) fun x6 =>
(bn (binO .lss 3 true x6 (n64 0)) fun x7 =>
(bn (guardB true x7) fun x8 =>
(bn (ifb x8 (some x5)
(some (D.tup []))) fun x9 =>
(bn (guardB true x7) fun x10 =>
(bn (ifb x10 (lenSlO x9)
(some (D.tup []))) fun x11 =>
(bn (guardB true x7) fun x12 =>
(bn (ifb x12 (binO .eql 3 true x11 (n64 1))
(some (D.tup []))) fun x13 =>
(bn (mp (D.bool? x7) fun x14 => (ifb x14 x13
(D.bool false))) fun x14 =>
(bn (guardB true x14) fun x15 =>
(bn (ifb x15 (some x5)
(some (D.tup []))) fun x16 =>
(bn (guardB true x14) fun x17 =>
(bn (ifb x17 (indexAddrO 3 true x16 (n64 0))
(some (D.tup []))) fun x18 =>
(bn (guardB true x14) fun x19 =>
(bn (ifb x19 (fieldAddrO 0 x18)
(some (D.tup []))) fun x20 =>
(bn (guardB true x14) fun x21 =>
(bn (ifb x21 (mp (loadO false 1 x20 x3.2) fun x22 => (x22, x3.2))
(some ((D.tup []), x3.2))) fun x22 =>
(bn (guardB true x14) fun x23 =>
(bn (ifb x23 (some a0)
(some (D.tup []))) fun x24 =>
(bn (guardB true x14) fun x25 =>
(bn (ifb x25 (binO .eql 3 false x22.1 x24)
(some (D.tup []))) fun x26 =>
(bn (mp (D.bool? x14) fun x27 => (ifb x27 x26
(D.bool false))) fun x27 =>
(leaveM M RetK.can A (Res.ret x27) x22.2))))))))))))))))))))))))) (fun x4 => (leaveM M RetK.can A (Res.pan x4) x3.2))))))) (fun x1 => (leaveM M RetK.can A (Res.pan x1) x0.2))))
theorem b61 (M : Mode) (call : CallT) (dcall : DcallT) (a0 : D) (A : St) : bodyN M Tryd.prog rxHint kk call dcall 61 [a0] A = f61 M call dcall a0.canon A := by
  kernel_rfl
noncomputable def f62 (M : Mode) (call : CallT) (dcall : DcallT) (a0 : D) (a1 : D) (A : St) : (Option (Res × St)) :=
(bn (binO .add 3 false a0 a1) fun x0 =>
(bn (call 50 [x0, (n64 1)] A) fun x1 =>
(Res.elim x1.1 (fun x2 => (bn (extractD x2 0) fun x3 =>
(bn (extractD x2 1) fun x4 =>
(bn (binO .geq 3 true x4 (n64 0)) fun x5 =>
(bn (guardB false x5) fun x6 =>
(bn (ifb x6 (some x3)
(some (D.tup []))) fun x7 =>
(bn (guardB false x5) fun x8 =>
(bn (ifb x8 (lenSlO x7)
(some (D.tup []))) fun x9 =>
(bn (guardB false x5) fun x10 =>
(bn (ifb x10 (binO .neq 3 true x9 (n64 2))
(some (D.tup []))) fun x11 =>
(bn (mp (D.bool? x5) fun x12 => (ifb x12 (D.bool true)
 x11)) fun x12 =>
(bn (guardB false x12) fun x13 =>
(bn (ifb x13 (some x3)
(some (D.tup []))) fun x14 =>
(bn (guardB false x12) fun x15 =>
(bn (ifb x15 (indexAddrO 3 true x14 (n64 0))
(some (D.tup []))) fun x16 =>
(bn (guardB false x12) fun x17 =>
(bn (ifb x17 (fieldAddrO 0 x16)
(some (D.tup []))) fun x18 =>
(bn (guardB false x12) fun x19 =>
(bn (ifb x19 (mp (loadO false 1 x18 x1.2) fun x20 => (x20, x1.2))
(some ((D.tup []), x1.2))) fun x20 =>
(bn (guardB false x12) fun x21 =>
(bn (ifb x21 (some a0)
(some (D.tup []))) fun x22 =>
(bn (guardB false x12) fun x23 =>
(bn (ifb x23 (binO .neq 3 false x20.1 x22)
(some (D.tup []))) fun x24 =>
(bn (mp (D.bool? x12) fun x25 => (ifb x25 (D.bool true)
 x24)) fun x25 =>
(bn (guardB false x25) fun x26 =>
(bn (ifb x26 (some x3)
(some (D.tup []))) fun x27 =>
(bn (guardB false x25) fun x28 =>
(bn (ifb x28 (indexAddrO 3 true x27 (n64 1))
(some (D.tup []))) fun x29 =>
(bn (guardB false x25) fun x30 =>
(bn (ifb x30 (fieldAddrO 0 x29)
(some (D.tup []))) fun x31 =>
(bn (guardB false x25) fun x32 =>
(bn (ifb x32 (mp (loadO false 1 x31 x20.2) fun x33 => (x33, x20.2))
(some ((D.tup []), x20.2))) fun x33 =>
(bn (guardB false x25) fun x34 =>
(bn (ifb x34 (some a1)
(some (D.tup []))) fun x35 =>
(bn (guardB false x25) fun x36 =>
(bn (ifb x36 (binO .neq 3 false x33.1 x35)
(some (D.tup []))) fun x37 =>
(bn (mp (D.bool? x25) fun x38 => (ifb x38 (D.bool true)
 x37)) fun x38 =>
(leaveM M RetK.can A (Res.ret x38) x33.2)))))))))))))))))))))))))))))))))))))) (fun x2 => (leaveM M RetK.can A (Res.pan x2) x1.2)))))
theorem b62 (M : Mode) (call : CallT) (dcall : DcallT) (a0 a1 : D) (A : St) : bodyN M Tryd.prog rxHint kk call dcall 62 [a0, a1] A = f62 M call dcall a0.canon a1.canon A := by
  kernel_rfl
noncomputable def f63_s0 (M : Mode) (call : CallT) (dcall : DcallT) (A : St) (e : Env) (Av5 : St) : (Option ((Env × St) ⊕ (Res × St))) :=
(bn (binO .lss 3 false (e.g 23) (e.g 22)) fun x0 =>
(bn (D.bool? x0) fun x1 =>
(ifb x1 (bn (indexStrO (e.g 0) (e.g 23)) fun x2 =>
(bn (call 85 [x2] Av5) fun x3 =>
(Res.elim x3.1 (fun x4 => (bn (unD UnOp.not x4) fun x5 =>
(bn (D.bool? x5) fun x6 =>
(ifb x6 (Option.map (Sum.inr ) (bn (leavesD dcall (fun (x7 : St) => (some (D.bool false))) (e).df none x3.2) fun x7 =>
(leaveM M RetK.can A x7.1 x7.2)))
(bn (binO .add 3 true (e.g 23) (n64 1)) fun x7 =>
(@Mode.gk M ((Env × St) ⊕ (Res × St)) Av5 x3.2 (some (Sum.inl ((Env.mk (sp [(0, (D.shut (List.length Av5) (e.g 0))), (21, (D.shut (List.length Av5) (e.g 22))), (0, (D.shut (List.length Av5) x7))] 8) (List.map (fun (x8 : (D × (List D))) => ((D.shut (List.length Av5) x8.1), (D.shutL (List.length Av5) x8.2))) (e).df)), (List.take (List.length Av5) x3.2)))))))))) (fun x4 => (Option.map (Sum.inr ) (bn (leavesD dcall (fun (x5 : St) => (some (e.g 2))) (e).df (some x4) x3.2) fun x5 =>
(leaveM M RetK.can A x5.1 x5.2)))))))
(Option.map (Sum.inr ) (bn (leavesD dcall (fun (x2 : St) => (some (D.bool true))) (e).df none Av5) fun x2 =>
(leaveM M RetK.can A x2.1 x2.2))))))
noncomputable def f63 (M : Mode) (call : CallT) (dcall : DcallT) (a0 : D) (A : St) : (Option (Res × St)) :=
(bn (binO .eql 3 true a0 (D.str [])) fun x0 =>
(bn (guardB false x0) fun x1 =>
(bn (ifb x1 (some a0)
(some (D.tup []))) fun x2 =>
(bn (guardB false x0) fun x3 =>
(bn (ifb x3 (lenStrO x2)
(some (D.tup []))) fun x4 =>
(bn (guardB false x0) fun x5 =>
(bn (ifb x5 (binO .gtr 3 true x4 (n64 64))
(some (D.tup []))) fun x6 =>
(bn (mp (D.bool? x0) fun x7 => (ifb x7 (D.bool true)
 x6)) fun x7 =>
(bn (guardB false x7) fun x8 =>
(bn (ifb x8 (some a0)
(some (D.tup []))) fun x9 =>
(bn (guardB false x7) fun x10 =>
(bn (ifb x10 (indexStrO x9 (n64 0))
(some (D.tup []))) fun x11 =>
(bn (guardB false x7) fun x12 =>
(bn (ifb x12 (call 84 [x11] A)
(some ((Res.ret (D.tup [])), A))) fun x13 =>
(Res.elim x13.1 (fun x14 => (bn (mp (D.bool? x7) fun x15 => (ifb x15 (D.bool true)
 x14)) fun x15 =>
(bn (guardB false x15) fun x16 =>
(bn (ifb x16 (some a0)
(some (D.tup []))) fun x17 =>
(bn (guardB false x15) fun x18 =>
(bn (ifb x18 (indexStrO x17 (n64 0))
(some (D.tup []))) fun x19 =>
(bn (guardB false x15) fun x20 =>
(bn (ifb x20 (binO .eql 3 true x19 (D.int IntKind.u8 (45 : Int)))
(some (D.tup []))) fun x21 =>
(bn (mp (D.bool? x15) fun x22 => (ifb x22 (D.bool true)
 x21)) fun x22 =>
(bn (D.bool? x22) fun x23 =>
(ifb x23 (leaveM M RetK.can A (Res.ret (D.bool false)) x13.2)
(bn (lenStrO a0) fun x24 =>
(@Mode.it M (Res × St) (f63_s0 M call dcall A) (Env.mk (sp [(0, a0), (21, x24), (0, (n64 0))] 8) []) x13.2))))))))))))) (fun x14 => (leaveM M RetK.can A (Res.pan x14) x13.2)))))))))))))))))
theorem b63 (M : Mode) (call : CallT) (dcall : DcallT) (a0 : D) (A : St) : bodyN M Tryd.prog rxHint kk call dcall 63 [a0] A = f63 M call dcall a0.canon A := by
  kernel_rfl
theorem r63 (a0 : D) (A : St) : Run Tryd.prog rxA 63 [a0] A = f63 mL (Run Tryd.prog rxA) (Dcall Tryd.prog rxA) a0.canon A := (Run_eqN Tryd.prog rxA kk rfl rfl _ _).trans (b63 mL (Run Tryd.prog rxA) (Dcall Tryd.prog rxA) a0 A)
noncomputable def f64 (M : Mode) (call : CallT) (dcall : DcallT) (a0 : D) (a1 : D) (A : St) : (Option (Res × St)) :=
(bn (call 86 [a0, a1] A) fun x0 =>
(Res.elim x0.1 (fun x1 => (bn (binO .geq 3 true x1 (n64 0)) fun x2 =>
(leaveM M RetK.can A (Res.ret x2) x0.2))) (fun x1 => (leaveM M RetK.can A (Res.pan x1) x0.2))))
theorem b64 (M : Mode) (call : CallT) (dcall : DcallT) (a0 a1 : D) (A : St) : bodyN M Tryd.prog rxHint kk call dcall 64 [a0, a1] A = f64 M call dcall a0.canon a1.canon A := by
  kernel_rfl
theorem r64 (a0 a1 : D) (A : St) : Run Tryd.prog rxA 64 [a0, a1] A = f64 mL (Run Tryd.prog rxA) (Dcall Tryd.prog rxA) a0.canon a1.canon A := (Run_eqN Tryd.prog rxA kk rfl rfl _ _).trans (b64 mL (Run Tryd.prog rxA) (Dcall Tryd.prog rxA) a0 a1 A)
noncomputable def f65 (M : Mode) (call : CallT) (dcall : DcallT) (a0 : D) (a1 : D) (A : St) : (Option (Res × St)) :=
(bn (boxO true a0 A) fun x0 =>
(bn (fieldAddrO 0 a1) fun x1 =>
(bn (mp (loadO false 1 x1 x0.2) fun x2 => (x2, x0.2)) fun x2 =>
(bn (binO .eql 3 true x2.1 (n64 4)) fun x3 =>
(bn (guardB false x3) fun x4 =>
(bn (ifb x4 (fieldAddrO 0 a1)
(some (D.tup []))) fun x5 =>
(bn (guardB false x3) fun x6 =>
(bn (ifb x6 (mp (loadO false 1 x5 x2.2) fun x7 => (x7, x2.2))
(some ((D.tup []), x2.2))) fun x7 =>
(bn (guardB false x3) fun x8 =>
(bn (ifb x8 (binO .eql 3 true x7.1 (n64 5))
(some (D.tup []))) fun x9 =>
(bn (mp (D.bool? x3) fun x10 => (ifb x10 (D.bool true)
 x9)) fun x10 =>
(bn (guardB true x10) fun x11 =>
(bn (ifb x11 (fieldAddrO 0 x0.1)
(some (D.tup []))) fun x12 =>
(bn (guardB true x10) fun x13 =>
(bn (ifb x13 (mp (loadO false 1 x12 x7.2) fun x14 => (x14, x7.2))
(some ((D.tup []), x7.2))) fun x14 =>
(bn (guardB true x10) fun x15 =>
(bn (ifb x15 (fieldAddrO 0 a1)
(some (D.tup []))) fun x16 =>
(bn (guardB true x10) fun x17 =>
(bn (ifb x17 (mp (loadO false 1 x16 x14.2) fun x18 => (x18, x14.2))
(some ((D.tup []), x14.2))) fun x18 =>
(bn (guardB true x10) fun x19 =>
(bn (ifb x19 (binO .eql 3 false x14.1 x18.1)
(some (D.tup []))) fun x20 =>
(bn (mp (D.bool? x10) fun x21 => (ifb x21 x20
(D.bool false))) fun x21 =>
(bn (guardB false x21) fun x22 =>
(bn (ifb x22 (mp (loadO true 3 x0.1 x18.2) fun x23 => (x23, x18.2))
(some ((D.tup []), x18.2))) fun x23 =>
(bn (guardB false x21) fun x24 =>
(bn (ifb x24 (call 44 [x23.1] x23.2)
(some ((Res.ret (D.tup [])), x23.2))) fun x25 =>
(Res.elim x25.1 (fun x26 => (bn (guardB false x21) fun x27 =>
(bn (ifb x27 (unD UnOp.not x26)
(some (D.tup []))) fun x28 =>
(bn (mp (D.bool? x21) fun x29 => (ifb x29 (D.bool true)
 x28)) fun x29 =>
(leaveM M RetK.can A (Res.ret x29) x25.2))))) (fun x26 => (leaveM M RetK.can A (Res.pan x26) x25.2)))))))))))))))))))))))))))))
theorem b65 (M : Mode) (call : CallT) (dcall : DcallT) (a0 a1 : D) (A : St) : bodyN M Tryd.prog rxHint kk call dcall 65 [a0, a1] A = f65 M call dcall a0.canon a1.canon A := by
  kernel_rfl
theorem r65 (a0 a1 : D) (A : St) : Run Tryd.prog rxA 65 [a0, a1] A = f65 mL (Run Tryd.prog rxA) (Dcall Tryd.prog rxA) a0.canon a1.canon A := (Run_eqN Tryd.prog rxA kk rfl rfl _ _).trans (b65 mL (Run Tryd.prog rxA) (Dcall Tryd.prog rxA) a0 a1 A)
noncomputable def f66 (M : Mode) (call : CallT) (dcall : DcallT) (a0 : D) (a1 : D) (a2 : D) (A : St) : (Option (Res × St)) :=
(bn (boxO false a0 A) fun x0 =>
(bn (boxO false a1 x0.2) fun x1 =>
(bn (boxO false a2 x1.2) fun x2 =>
(leaveM M RetK.keep A (Res.ret (D.fn (Fn.func 87) [] [x1.1, x0.1, x2.1])) x2.2))))
theorem b66 (M : Mode) (call : CallT) (dcall : DcallT) (a0 a1 a2 : D) (A : St) : bodyN M Tryd.prog rxHint kk call dcall 66 [a0, a1, a2] A = f66 M call dcall a0.canon a1.canon a2.canon A := by
  kernel_rfl
noncomputable def f67 (M : Mode) (call : CallT) (dcall : DcallT) (a0 : D) (a1 : D) (A : St) : (Option (Res × St)) :=
(bn (nilCheckD a0) fun x0 =>
(bn (fieldAddrO 1 x0) fun x1 =>
(bn (mp (loadO false 1 x1 A) fun x2 => (x2, A)) fun x2 =>
(bn (binO .add 3 false x2.1 a1) fun x3 =>
(bn (nilCheckD a0) fun x4 =>
(bn (fieldAddrO 1 x4) fun x5 =>
(bn (mp (storeO false 1 x5 x3 x2.2) fun x6 => ((D.tup []), x6)) fun x6 =>
(leaveM M RetK.can A (Res.ret (D.tup [])) x6.2))))))))
theorem b67 (M : Mode) (call : CallT) (dcall : DcallT) (a0 a1 : D) (A : St) : bodyN M Tryd.prog rxHint kk call dcall 67 [a0, a1] A = f67 M call dcall a0.canon a1.canon A := by
  kernel_rfl
noncomputable def f68_s0 (M : Mode) (call : CallT) (dcall : DcallT) (A : St) (e : Env) (Av5 : St) : (Option ((Env × St) ⊕ (Res × St))) :=
(bn (lenStrO (e.g 3)) fun x0 =>
(bn (binO .lss 3 false (e.g 4) x0) fun x1 =>
(bn (guardB true x1) fun x2 =>
(bn (ifb x2 (some (e.g 3))
(some (D.tup []))) fun x3 =>
(bn (guardB true x1) fun x4 =>
(bn (ifb x4 (some (e.g 4))
(some (D.tup []))) fun x5 =>
(bn (guardB true x1) fun x6 =>
(bn (ifb x6 (indexStrO x3 x5)
(some (D.tup []))) fun x7 =>
(bn (guardB true x1) fun x8 =>
(bn (ifb x8 (call 85 [x7] Av5)
(some ((Res.ret (D.tup [])), Av5))) fun x9 =>
(Res.elim x9.1 (fun x10 => (bn (mp (D.bool? x1) fun x11 => (ifb x11 x10
(D.bool false))) fun x11 =>
(bn (guardB true x11) fun x12 =>
(bn (ifb x12 (some (e.g 3))
(some (D.tup []))) fun x13 =>
(bn (guardB true x11) fun x14 =>
(bn (ifb x14 (some (e.g 4))
(some (D.tup []))) fun x15 =>
(bn (guardB true x11) fun x16 =>
(bn (ifb x16 (sliceStrO x13 (some x15) none none)
(some (D.tup []))) fun x17 =>
(bn (guardB true x11) fun x18 =>
(bn (ifb x18 (call 92 [x17, (D.str [(45 : UInt8), (62 : UInt8)])] x9.2)
(some ((Res.ret (D.tup [])), x9.2))) fun x19 =>
(Res.elim x19.1 (fun x20 => (bn (guardB true x11) fun x21 =>
(bn (ifb x21 (unD UnOp.not x20)
(some (D.tup []))) fun x22 =>
(bn (mp (D.bool? x11) fun x23 => (ifb x23 x22
(D.bool false))) fun x23 =>
(bn (D.bool? x23) fun x24 =>
(ifb x24 (bn (binO .add 3 true (e.g 4) (n64 1)) fun x25 =>
(@Mode.gk M ((Env × St) ⊕ (Res × St)) Av5 x19.2 (some (Sum.inl ((Env.mk (sp [(3, (D.shut (List.length Av5) (e.g 3))), (0, (D.shut (List.length Av5) x25))] 42) (List.map (fun (x26 : (D × (List D))) => ((D.shut (List.length Av5) x26.1), (D.shutL (List.length Av5) x26.2))) (e).df)), (List.take (List.length Av5) x19.2))))))
(Option.map (Sum.inr ) (bn (leavesD dcall (fun (x25 : St) => (some (e.g 4))) (e).df none x19.2) fun x25 =>
(leaveM M RetK.can A x25.1 x25.2))))))))) (fun x20 => (Option.map (Sum.inr ) (bn (leavesD dcall (fun (x21 : St) => (some (e.g 2))) (e).df (some x20) x19.2) fun x21 =>
(leaveM M RetK.can A x21.1 x21.2))))))))))))))) (fun x10 => (Option.map (Sum.inr ) (bn (leavesD dcall (fun (x11 : St) => (some (e.g 2))) (e).df (some x10) x9.2) fun x11 =>
(leaveM M RetK.can A x11.1 x11.2)))))))))))))))
noncomputable def f68 (M : Mode) (call : CallT) (dcall : DcallT) (a0 : D) (A : St) : (Option (Res × St)) :=
(bn (nilCheckD a0) fun x0 =>
(bn (fieldAddrO 2 x0) fun x1 =>
(bn (mp (mp (loadO false 1 x1 A) fun x2 => (x2, A)) fun x2 => x2.1) fun x2 =>
(bn (nilCheckD a0) fun x3 =>
(bn (fieldAddrO 0 x3) fun x4 =>
(bn (fieldAddrO 1 x4) fun x5 =>
(bn (mp (mp (loadO false 1 x5 A) fun x6 => (x6, A)) fun x6 => x6.1) fun x6 =>
(bn (sliceStrO x2 (some x6) none none) fun x7 =>
(@Mode.gs M (Res × St) True true (bn (lenStrO x7) fun x8 =>
(bn (binO .gtr 3 true x8 (n64 1)) fun x9 =>
(bn (guardB true x9) fun x10 =>
(bn (ifb x10 (some x7)
(some (D.tup []))) fun x11 =>
(bn (guardB true x9) fun x12 =>
(bn (ifb x12 (sliceStrO x11 none (some (n64 2)) none)
(some (D.tup []))) fun x13 =>
(bn (guardB true x9) fun x14 =>
(bn (ifb x14 (call 90 [x13] A)
(some ((Res.ret (D.tup [])), A))) fun x15 =>
(Res.elim x15.1 (fun x16 => (bn (mp (D.bool? x9) fun x17 => (ifb x17 x16
(D.bool false))) fun x17 =>
(bn (D.bool? x17) fun x18 =>
(ifb x18 (leaveM M RetK.can A (Res.ret (n64 2)) x15.2)
(bn (indexStrO x7 (n64 0)) fun x19 =>
(bn (call 91 [(D.str [(40 : UInt8), (41 : UInt8), (44 : UInt8), (124 : UInt8), (42 : UInt8), (43 : UInt8), (63 : UInt8), (46 : UInt8), (36 : UInt8), (61 : UInt8), (60 : UInt8), (62 : UInt8)]), x19] x15.2) fun x20 =>
(Res.elim x20.1 (fun x21 => (bn (binO .geq 3 true x21 (n64 0)) fun x22 =>
(bn (D.bool? x22) fun x23 =>
(ifb x23 (leaveM M RetK.can A (Res.ret (n64 1)) x20.2)
(@Mode.it M (Res × St) (f68_s0 M call dcall A) (Env.mk (sp [(3, x7), (0, (n64 0))] 42) []) x20.2))))) (fun x21 => (leaveM M RetK.can A (Res.pan x21) x20.2))))))))) (fun x16 => (leaveM M RetK.can A (Res.pan x16) x15.2))))))))))))))))))))
theorem b68 (M : Mode) (call : CallT) (dcall : DcallT) (a0 : D) (A : St) : bodyN M Tryd.prog rxHint kk call dcall 68 [a0] A = f68 M call dcall a0.canon A := by
  kernel_rfl
noncomputable def f69_s0 (M : Mode) (call : CallT) (dcall : DcallT) (A : St) (e : Env) (Av5 : St) : (Option ((Env × St) ⊕ (Res × St))) :=
(bn (lenStrO (e.g 0)) fun x0 =>
(bn (binO .lss 3 false (e.g 5) x0) fun x1 =>
(bn (guardB true x1) fun x2 =>
(bn (ifb x2 (some (e.g 0))
(some (D.tup []))) fun x3 =>
(bn (guardB true x1) fun x4 =>
(bn (ifb x4 (some (e.g 5))
(some (D.tup []))) fun x5 =>
(bn (guardB true x1) fun x6 =>
(bn (ifb x6 (indexStrO x3 x5)
(some (D.tup []))) fun x7 =>
(bn (guardB true x1) fun x8 =>
(bn (ifb x8 (call 95 [x7] Av5)
(some ((Res.ret (D.tup [])), Av5))) fun x9 =>
(Res.elim x9.1 (fun x10 => (bn (mp (D.bool? x1) fun x11 => (ifb x11 x10
(D.bool false))) fun x11 =>
(bn (guardB true x11) fun x12 =>
(bn (ifb x12 (some (e.g 5))
(some (D.tup []))) fun x13 =>
(bn (guardB true x11) fun x14 =>
(bn (ifb x14 (binO .add 3 true x13 (n64 2))
(some (D.tup []))) fun x15 =>
(bn (guardB true x11) fun x16 =>
(bn (ifb x16 (some (e.g 0))
(some (D.tup []))) fun x17 =>
(bn (guardB true x11) fun x18 =>
(bn (ifb x18 (lenStrO x17)
(some (D.tup []))) fun x19 =>
(bn (guardB true x11) fun x20 =>
(bn (ifb x20 (binO .leq 3 false x15 x19)
(some (D.tup []))) fun x21 =>
(bn (guardB true x11) fun x22 =>
(bn (ifb x22 (some x21)
(some (D.tup []))) fun x23 =>
(bn (guardB true x23) fun x24 =>
(bn (ifb x24 (some (e.g 0))
(some (D.tup []))) fun x25 =>
(bn (guardB true x23) fun x26 =>
(bn (ifb x26 (some (e.g 5))
(some (D.tup []))) fun x27 =>
(bn (guardB true x23) fun x28 =>
(bn (ifb x28 (some (e.g 5))
(some (D.tup []))) fun x29 =>
(bn (guardB true x23) fun x30 =>
(bn (ifb x30 (binO .add 3 true x29 (n64 2))
(some (D.tup []))) fun x31 =>
(bn (guardB true x23) fun x32 =>
(bn (ifb x32 (sliceStrO x25 (some x27) (some x31) none)
(some (D.tup []))) fun x33 =>
(bn (guardB true x23) fun x34 =>
(bn (ifb x34 (binO .eql 3 true x33 (D.str [(45 : UInt8), (62 : UInt8)]))
(some (D.tup []))) fun x35 =>
(bn (guardB true x11) fun x36 =>
(bn (ifb x36 (mp (D.bool? x23) fun x37 => (ifb x37 x35
(D.bool false)))
(some (D.tup []))) fun x37 =>
(bn (guardB true x11) fun x38 =>
(bn (ifb x38 (unD UnOp.not x37)
(some (D.tup []))) fun x39 =>
(bn (mp (D.bool? x11) fun x40 => (ifb x40 x39
(D.bool false))) fun x40 =>
(bn (D.bool? x40) fun x41 =>
(ifb x41 (bn (binO .add 3 true (e.g 5) (n64 1)) fun x42 =>
(@Mode.gk M ((Env × St) ⊕ (Res × St)) Av5 x9.2 (some (Sum.inl ((Env.mk (sp [(0, (D.shut (List.length Av5) (e.g 0))), (0, (D.shut (List.length Av5) (e.g 1))), (3, (D.shut (List.length Av5) x42))] 49) (List.map (fun (x43 : (D × (List D))) => ((D.shut (List.length Av5) x43.1), (D.shutL (List.length Av5) x43.2))) (e).df)), (List.take (List.length Av5) x9.2))))))
(Option.map (Sum.inr ) (bn (binO .sub 3 false (e.g 5) (e.g 1)) fun x42 =>
(bn (leavesD dcall (fun (x43 : St) => (some x42)) (e).df none x9.2) fun x43 =>
(leaveM M RetK.can A x43.1 x43.2))))))))))))))))))))))))))))))))))))) (fun x10 => (Option.map (Sum.inr ) (bn (leavesD dcall (fun (x11 : St) => (some (e.g 4))) (e).df (some x10) x9.2) fun x11 =>
(leaveM M RetK.can A x11.1 x11.2)))))))))))))))
noncomputable def f69 (M : Mode) (call : CallT) (dcall : DcallT) (a0 : D) (a1 : D) (A : St) : (Option (Res × St)) :=
(bn (binO .add 3 true a1 (n64 2)) fun x0 =>
(bn (lenStrO a0) fun x1 =>
(bn (binO .leq 3 false x0 x1) fun x2 =>
(bn (guardB true x2) fun x3 =>
(bn (ifb x3 (some a0)
(some (D.tup []))) fun x4 =>
(bn (guardB true x2) fun x5 =>
(bn (ifb x5 (some a1)
(some (D.tup []))) fun x6 =>
(bn (guardB true x2) fun x7 =>
(bn (ifb x7 (some a1)
(some (D.tup []))) fun x8 =>
(bn (guardB true x2) fun x9 =>
(bn (ifb x9 (binO .add 3 true x8 (n64 2))
(some (D.tup []))) fun x10 =>
(bn (guardB true x2) fun x11 =>
(bn (ifb x11 (sliceStrO x4 (some x6) (some x10) none)
(some (D.tup []))) fun x12 =>
(bn (guardB true x2) fun x13 =>
(bn (ifb x13 (call 93 [x12] A)
(some ((Res.ret (D.tup [])), A))) fun x14 =>
(Res.elim x14.1 (fun x15 => (bn (mp (D.bool? x2) fun x16 => (ifb x16 x15
(D.bool false))) fun x16 =>
(bn (D.bool? x16) fun x17 =>
(ifb x17 (leaveM M RetK.can A (Res.ret (n64 2)) x14.2)
(bn (indexStrO a0 a1) fun x18 =>
(bn (call 94 [x18] x14.2) fun x19 =>
(Res.elim x19.1 (fun x20 => (bn (D.bool? x20) fun x21 =>
(ifb x21 (leaveM M RetK.can A (Res.ret (n64 1)) x19.2)
(@Mode.it M (Res × St) (f69_s0 M call dcall A) (Env.mk (sp [(0, a0), (0, a1), (3, a1)] 49) []) x19.2)))) (fun x20 => (leaveM M RetK.can A (Res.pan x20) x19.2))))))))) (fun x15 => (leaveM M RetK.can A (Res.pan x15) x14.2))))))))))))))))))
theorem b69 (M : Mode) (call : CallT) (dcall : DcallT) (a0 a1 : D) (A : St) : bodyN M Tryd.prog rxHint kk call dcall 69 [a0, a1] A = f69 M call dcall a0.canon a1.canon A := by
  kernel_rfl
noncomputable def f70_s0 (M : Mode) (call : CallT) (dcall : DcallT) (A : St) (e : Env) (Av5 : St) : (Option ((Env × St) ⊕ (Res × St))) :=
(bn (binO .lss 3 false (e.g 10) (e.g 9)) fun x0 =>
(bn (D.bool? x0) fun x1 =>
(ifb x1 (bn (binO .add 3 true (e.g 0) (n64 1)) fun x2 =>
(bn (makeO 1 1 1 [(D.bool false)] x2 x2 Av5) fun x3 =>
(bn (indexAddrO 1 false (e.g 3) (e.g 10)) fun x4 =>
(bn (mp (storeO false 1 x4 x3.1 x3.2) fun x5 => ((D.tup []), x5)) fun x5 =>
(bn (binO .add 3 true (e.g 10) (n64 1)) fun x6 =>
(some (Sum.inl ((Env.mk (sp [(0, (e.g 0)), (2, (e.g 3)), (5, (e.g 9)), (0, x6)] 10) (e).df), x5.2))))))))
(Option.map (Sum.inr ) (bn (leavesD dcall (fun (x2 : St) => (some (e.g 3))) (e).df none Av5) fun x2 =>
(leaveM M RetK.keep A x2.1 x2.2))))))
noncomputable def f70 (M : Mode) (call : CallT) (dcall : DcallT) (a0 : D) (A : St) : (Option (Res × St)) :=
(bn (binO .add 3 true a0 (n64 1)) fun x0 =>
(bn (makeO 1 24 1 [(D.sl Own.full 0 [])] x0 x0 A) fun x1 =>
(bn (lenSlO x1.1) fun x2 =>
(@Mode.it M (Res × St) (f70_s0 M call dcall A) (Env.mk (sp [(0, a0), (2, x1.1), (5, x2), (0, (n64 0))] 10) []) x1.2))))
theorem b70 (M : Mode) (call : CallT) (dcall : DcallT) (a0 : D) (A : St) : bodyN M Tryd.prog rxHint kk call dcall 70 [a0] A = f70 M call dcall a0.canon A := by
  kernel_rfl
theorem r70 (a0 : D) (A : St) : Run Tryd.prog rxA 70 [a0] A = f70 mL (Run Tryd.prog rxA) (Dcall Tryd.prog rxA) a0.canon A := (Run_eqN Tryd.prog rxA kk rfl rfl _ _).trans (b70 mL (Run Tryd.prog rxA) (Dcall Tryd.prog rxA) a0 A)
noncomputable def f71 (M : Mode) (call : CallT) (dcall : DcallT) (a0 : D) (a1 : D) (A : St) : (Option (Res × St)) :=
(bn (call 96 [a0, a1] A) fun x0 =>
(Res.elim x0.1 (fun x1 => (bn (binO .geq 3 true x1 (n64 0)) fun x2 =>
(leaveM M RetK.can A (Res.ret x2) x0.2))) (fun x1 => (leaveM M RetK.can A (Res.pan x1) x0.2))))
theorem b71 (M : Mode) (call : CallT) (dcall : DcallT) (a0 a1 : D) (A : St) : bodyN M Tryd.prog rxHint kk call dcall 71 [a0, a1] A = f71 M call dcall a0.canon a1.canon A := by
  kernel_rfl
theorem r71 (a0 a1 : D) (A : St) : Run Tryd.prog rxA 71 [a0, a1] A = f71 mL (Run Tryd.prog rxA) (Dcall Tryd.prog rxA) a0.canon a1.canon A := (Run_eqN Tryd.prog rxA kk rfl rfl _ _).trans (b71 mL (Run Tryd.prog rxA) (Dcall Tryd.prog rxA) a0 a1 A)
noncomputable def f72_s0 (M : Mode) (call : CallT) (dcall : DcallT) (A : St) (e : Env) (Av5 : St) : (Option ((Env × St) ⊕ (Res × St))) :=
(bn (binO .lss 3 false (e.g 9) (e.g 8)) fun x0 =>
(bn (D.bool? x0) fun x1 =>
(ifb x1 (bn (indexAddrO 1 false (e.g 3) (e.g 9)) fun x2 =>
(bn (mp (loadO false 1 x2 Av5) fun x3 => (x3, Av5)) fun x3 =>
(bn (indexAddrO 1 false x3.1 (e.g 9)) fun x4 =>
(bn (mp (storeO false 1 x4 (D.bool true) x3.2) fun x5 => ((D.tup []), x5)) fun x5 =>
(bn (binO .add 3 true (e.g 9) (n64 1)) fun x6 =>
(some (Sum.inl ((Env.mk (sp [(3, (e.g 3)), (4, (e.g 8)), (0, x6)] 10) (e).df), x5.2))))))))
(Option.map (Sum.inr ) (bn (leavesD dcall (fun (x2 : St) => (some (e.g 3))) (e).df none Av5) fun x2 =>
(leaveM M RetK.keep A x2.1 x2.2))))))
noncomputable def f72 (M : Mode) (call : CallT) (dcall : DcallT) (a0 : D) (A : St) : (Option (Res × St)) :=
(bn (call 70 [a0] A) fun x0 =>
(Res.elim x0.1 (fun x1 => (bn (lenSlO x1) fun x2 =>
(@Mode.it M (Res × St) (f72_s0 M call dcall A) (Env.mk (sp [(3, x1), (4, x2), (0, (n64 0))] 10) []) x0.2))) (fun x1 => (leaveM M RetK.keep A (Res.pan x1) x0.2))))
theorem b72 (M : Mode) (call : CallT) (dcall : DcallT) (a0 : D) (A : St) : bodyN M Tryd.prog rxHint kk call dcall 72 [a0] A = f72 M call dcall a0.canon A := by
  kernel_rfl
theorem r72 (a0 : D) (A : St) : Run Tryd.prog rxA 72 [a0] A = f72 mL (Run Tryd.prog rxA) (Dcall Tryd.prog rxA) a0.canon A := (Run_eqN Tryd.prog rxA kk rfl rfl _ _).trans (b72 mL (Run Tryd.prog rxA) (Dcall Tryd.prog rxA) a0 A)
noncomputable def f73_s0 (M : Mode) (call : CallT) (dcall : DcallT) (e : Env) (A : St) : (Option ((Env × St) ⊕ ((Env × St) ⊕ ((Env × St) ⊕ (Res × St))))) :=
(bn (indexAddrO 1 false (e.g 0) (e.g 6)) fun x0 =>
(bn (mp (loadO false 1 x0 A) fun x1 => (x1, A)) fun x1 =>
(bn (indexAddrO 1 false x1.1 (e.g 7)) fun x2 =>
(bn (mp (loadO false 1 x2 x1.2) fun x3 => (x3, x1.2)) fun x3 =>
(bn (guardB true x3.1) fun x4 =>
(bn (ifb x4 (some (e.g 8))
(some (D.tup []))) fun x5 =>
(bn (guardB true x3.1) fun x6 =>
(bn (ifb x6 (some (e.g 0))
(some (D.tup []))) fun x7 =>
(bn (guardB true x3.1) fun x8 =>
(bn (ifb x8 (lenSlO x7)
(some (D.tup []))) fun x9 =>
(bn (guardB true x3.1) fun x10 =>
(bn (ifb x10 (binO .lss 3 false x5 x9)
(some (D.tup []))) fun x11 =>
(bn (mp (D.bool? x3.1) fun x12 => (ifb x12 x11
(D.bool false))) fun x12 =>
(bn (D.bool? x12) fun x13 =>
(ifb x13 (bn (indexAddrO 1 false (e.g 5) (e.g 6)) fun x14 =>
(bn (mp (mp (loadO false 1 x14 x3.2) fun x15 => (x15, x3.2)) fun x15 => x15.1) fun x15 =>
(bn (indexAddrO 1 false (e.g 5) (e.g 6)) fun x16 =>
(bn (mp (mp (loadO false 1 x16 x3.2) fun x17 => (x17, x3.2)) fun x17 => x17.1) fun x17 =>
(bn (indexAddrO 1 false x17 (e.g 8)) fun x18 =>
(bn (mp (mp (loadO false 1 x18 x3.2) fun x19 => (x19, x3.2)) fun x19 => x19.1) fun x19 =>
(bn (guardB false x19) fun x20 =>
(bn (ifb x20 (some (e.g 1))
(some (D.tup []))) fun x21 =>
(bn (guardB false x19) fun x22 =>
(bn (ifb x22 (some (e.g 7))
(some (D.tup []))) fun x23 =>
(bn (guardB false x19) fun x24 =>
(bn (ifb x24 (indexAddrO 1 false x21 x23)
(some (D.tup []))) fun x25 =>
(bn (guardB false x19) fun x26 =>
(bn (ifb x26 (mp (mp (loadO false 1 x25 x3.2) fun x27 => (x27, x3.2)) fun x27 => x27.1)
(some (D.tup []))) fun x27 =>
(bn (guardB false x19) fun x28 =>
(bn (ifb x28 (some (e.g 8))
(some (D.tup []))) fun x29 =>
(bn (guardB false x19) fun x30 =>
(bn (ifb x30 (indexAddrO 1 false x27 x29)
(some (D.tup []))) fun x31 =>
(bn (guardB false x19) fun x32 =>
(bn (ifb x32 (mp (mp (loadO false 1 x31 x3.2) fun x33 => (x33, x3.2)) fun x33 => x33.1)
(some (D.tup []))) fun x33 =>
(bn (mp (D.bool? x19) fun x34 => (ifb x34 (D.bool true)
 x33)) fun x34 =>
(bn (indexAddrO 1 false x15 (e.g 8)) fun x35 =>
(bn (mp (storeO false 1 x35 x34 x3.2) fun x36 => ((D.tup []), x36)) fun x36 =>
(@Mode.gs M ((Env × St) ⊕ ((Env × St) ⊕ ((Env × St) ⊕ (Res × St)))) True true (bn (binO .add 3 true (e.g 8) (n64 1)) fun x37 =>
(some (Sum.inl ((Env.mk (sp [(0, (e.g 0)), (0, (e.g 1)), (3, (e.g 5)), (0, (e.g 6)), (0, (e.g 7)), (0, x37), (5, (e.g 14)), (0, (e.g 15))] 49) (e).df), x36.2))))))))))))))))))))))))))))
(Option.map (Sum.inr ) (bn (binO .add 3 true (e.g 7) (n64 1)) fun x14 =>
(some (Sum.inl ((Env.mk (sp [(0, (e.g 0)), (0, (e.g 1)), (3, (e.g 5)), (0, (e.g 6)), (0, x14), (6, (e.g 14)), (0, (e.g 15))] 49) (e).df), x3.2))))))))))))))))))))
noncomputable def f73_s1 (M : Mode) (call : CallT) (dcall : DcallT) (e : Env) (A : St) : (Option ((Env × St) ⊕ ((Env × St) ⊕ (Res × St)))) :=
(bn (lenSlO (e.g 0)) fun x0 =>
(bn (binO .lss 3 false (e.g 7) x0) fun x1 =>
(bn (D.bool? x1) fun x2 =>
(ifb x2 (@Mode.it M ((Env × St) ⊕ ((Env × St) ⊕ (Res × St))) (f73_s0 M call dcall) (Env.mk (sp [(0, (e.g 0)), (0, (e.g 1)), (3, (e.g 5)), (0, (e.g 6)), (0, (e.g 7)), (0, (e.g 7)), (5, (e.g 14)), (0, (e.g 15))] 49) (e).df) A)
(Option.map (Sum.inr ) (bn (binO .add 3 true (e.g 15) (n64 1)) fun x3 =>
(some (Sum.inl ((Env.mk (sp [(0, (e.g 0)), (0, (e.g 1)), (3, (e.g 5)), (8, (e.g 14)), (0, x3)] 49) (e).df), A)))))))))
noncomputable def f73_s2 (M : Mode) (call : CallT) (dcall : DcallT) (A : St) (e : Env) (Av5 : St) : (Option ((Env × St) ⊕ (Res × St))) :=
(bn (binO .lss 3 false (e.g 15) (e.g 14)) fun x0 =>
(bn (D.bool? x0) fun x1 =>
(ifb x1 (@Mode.it M ((Env × St) ⊕ (Res × St)) (f73_s1 M call dcall) (Env.mk (sp [(0, (e.g 0)), (0, (e.g 1)), (3, (e.g 5)), (0, (e.g 15)), (0, (e.g 15)), (6, (e.g 14)), (0, (e.g 15))] 49) (e).df) Av5)
(Option.map (Sum.inr ) (bn (leavesD dcall (fun (x2 : St) => (some (e.g 5))) (e).df none Av5) fun x2 =>
(leaveM M RetK.keep A x2.1 x2.2))))))
noncomputable def f73 (M : Mode) (call : CallT) (dcall : DcallT) (a0 : D) (a1 : D) (A : St) : (Option (Res × St)) :=
(bn (lenSlO a0) fun x0 =>
(bn (binO .sub 3 true x0 (n64 1)) fun x1 =>
(bn (call 70 [x1] A) fun x2 =>
(Res.elim x2.1 (fun x3 => (bn (lenSlO a0) fun x4 =>
(@Mode.it M (Res × St) (f73_s2 M call dcall A) (Env.mk (sp [(0, a0), (0, a1), (3, x3), (8, x4), (0, (n64 0))] 49) []) x2.2))) (fun x3 => (leaveM M RetK.keep A (Res.pan x3) x2.2))))))
theorem b73 (M : Mode) (call : CallT) (dcall : DcallT) (a0 a1 : D) (A : St) : bodyN M Tryd.prog rxHint kk call dcall 73 [a0, a1] A = f73 M call dcall a0.canon a1.canon A := by
  kernel_rfl
theorem r73 (a0 a1 : D) (A : St) : Run Tryd.prog rxA 73 [a0, a1] A = f73 mL (Run Tryd.prog rxA) (Dcall Tryd.prog rxA) a0.canon a1.canon A := (Run_eqN Tryd.prog rxA kk rfl rfl _ _).trans (b73 mL (Run Tryd.prog rxA) (Dcall Tryd.prog rxA) a0 a1 A)
noncomputable def f74_s0 (M : Mode) (call : CallT) (dcall : DcallT) (e : Env) (A : St) : (Option ((Env × St) ⊕ ((Env × St) ⊕ (Res × St)))) :=
(bn (binO .lss 3 false (e.g 14) (e.g 13)) fun x0 =>
(bn (D.bool? x0) fun x1 =>
(ifb x1 (bn (indexAddrO 1 false (e.g 0) (e.g 5)) fun x2 =>
(bn (mp (mp (loadO false 1 x2 A) fun x3 => (x3, A)) fun x3 => x3.1) fun x3 =>
(bn (indexAddrO 1 false (e.g 0) (e.g 5)) fun x4 =>
(bn (mp (mp (loadO false 1 x4 A) fun x5 => (x5, A)) fun x5 => x5.1) fun x5 =>
(bn (indexAddrO 1 false x5 (e.g 14)) fun x6 =>
(bn (mp (mp (loadO false 1 x6 A) fun x7 => (x7, A)) fun x7 => x7.1) fun x7 =>
(bn (guardB false x7) fun x8 =>
(bn (ifb x8 (some (e.g 1))
(some (D.tup []))) fun x9 =>
(bn (guardB false x7) fun x10 =>
(bn (ifb x10 (some (e.g 5))
(some (D.tup []))) fun x11 =>
(bn (guardB false x7) fun x12 =>
(bn (ifb x12 (indexAddrO 1 false x9 x11)
(some (D.tup []))) fun x13 =>
(bn (guardB false x7) fun x14 =>
(bn (ifb x14 (mp (mp (loadO false 1 x13 A) fun x15 => (x15, A)) fun x15 => x15.1)
(some (D.tup []))) fun x15 =>
(bn (guardB false x7) fun x16 =>
(bn (ifb x16 (some (e.g 14))
(some (D.tup []))) fun x17 =>
(bn (guardB false x7) fun x18 =>
(bn (ifb x18 (indexAddrO 1 false x15 x17)
(some (D.tup []))) fun x19 =>
(bn (guardB false x7) fun x20 =>
(bn (ifb x20 (mp (mp (loadO false 1 x19 A) fun x21 => (x21, A)) fun x21 => x21.1)
(some (D.tup []))) fun x21 =>
(bn (mp (D.bool? x7) fun x22 => (ifb x22 (D.bool true)
 x21)) fun x22 =>
(bn (indexAddrO 1 false x3 (e.g 14)) fun x23 =>
(bn (mp (storeO false 1 x23 x22 A) fun x24 => ((D.tup []), x24)) fun x24 =>
(@Mode.gs M ((Env × St) ⊕ ((Env × St) ⊕ (Res × St))) True true (bn (binO .add 3 true (e.g 14) (n64 1)) fun x25 =>
(some (Sum.inl ((Env.mk (sp [(0, (e.g 0)), (0, (e.g 1)), (3, (e.g 5)), (2, (e.g 8)), (0, (e.g 9)), (3, (e.g 13)), (0, x25)] 27) (e).df), x24.2))))))))))))))))))))))))))))
(Option.map (Sum.inr ) (bn (binO .add 3 true (e.g 9) (n64 1)) fun x2 =>
(some (Sum.inl ((Env.mk (sp [(0, (e.g 0)), (0, (e.g 1)), (6, (e.g 8)), (0, x2)] 32) (e).df), A))))))))
noncomputable def f74_s1 (M : Mode) (call : CallT) (dcall : DcallT) (A : St) (e : Env) (Av5 : St) : (Option ((Env × St) ⊕ (Res × St))) :=
(bn (binO .lss 3 false (e.g 9) (e.g 8)) fun x0 =>
(bn (D.bool? x0) fun x1 =>
(ifb x1 (bn (lenSlO (e.g 0)) fun x2 =>
(@Mode.it M ((Env × St) ⊕ (Res × St)) (f74_s0 M call dcall) (Env.mk (sp [(0, (e.g 0)), (0, (e.g 1)), (3, (e.g 9)), (2, (e.g 8)), (0, (e.g 9)), (3, x2), (0, (n64 0))] 27) (e).df) Av5))
(Option.map (Sum.inr ) (bn (leavesD dcall (fun (x2 : St) => (some (e.g 0))) (e).df none Av5) fun x2 =>
(leaveM M RetK.keep A x2.1 x2.2))))))
noncomputable def f74 (M : Mode) (call : CallT) (dcall : DcallT) (a0 : D) (a1 : D) (A : St) : (Option (Res × St)) :=
(bn (lenSlO a0) fun x0 =>
(@Mode.it M (Res × St) (f74_s1 M call dcall A) (Env.mk (sp [(0, a0), (0, a1), (6, x0), (0, (n64 0))] 32) []) A))
theorem b74 (M : Mode) (call : CallT) (dcall : DcallT) (a0 a1 : D) (A : St) : bodyN M Tryd.prog rxHint kk call dcall 74 [a0, a1] A = f74 M call dcall a0.canon a1.canon A := by
  kernel_rfl
theorem r74 (a0 a1 : D) (A : St) : Run Tryd.prog rxA 74 [a0, a1] A = f74 mL (Run Tryd.prog rxA) (Dcall Tryd.prog rxA) a0.canon a1.canon A := (Run_eqN Tryd.prog rxA kk rfl rfl _ _).trans (b74 mL (Run Tryd.prog rxA) (Dcall Tryd.prog rxA) a0 a1 A)
noncomputable def f75_s0 (M : Mode) (call : CallT) (dcall : DcallT) (e : Env) (A : St) : (Option ((Env × St) ⊕ ((Env × St) ⊕ ((Env × St) ⊕ (Res × St))))) :=
(bn (indexAddrO 1 false (e.g 0) (e.g 4)) fun x0 =>
(bn (mp (loadO false 1 x0 A) fun x1 => (x1, A)) fun x1 =>
(bn (indexAddrO 1 false x1.1 (e.g 5)) fun x2 =>
(bn (mp (loadO false 1 x2 x1.2) fun x3 => (x3, x1.2)) fun x3 =>
(bn (guardB true x3.1) fun x4 =>
(bn (ifb x4 (some (e.g 5))
(some (D.tup []))) fun x5 =>
(bn (guardB true x3.1) fun x6 =>
(bn (ifb x6 (some (e.g 4))
(some (D.tup []))) fun x7 =>
(bn (guardB true x3.1) fun x8 =>
(bn (ifb x8 (binO .gtr 3 false x5 x7)
(some (D.tup []))) fun x9 =>
(bn (mp (D.bool? x3.1) fun x10 => (ifb x10 x9
(D.bool false))) fun x10 =>
(bn (guardB true x10) fun x11 =>
(bn (ifb x11 (some (e.g 6))
(some (D.tup []))) fun x12 =>
(bn (guardB true x10) fun x13 =>
(bn (ifb x13 (some (e.g 0))
(some (D.tup []))) fun x14 =>
(bn (guardB true x10) fun x15 =>
(bn (ifb x15 (lenSlO x14)
(some (D.tup []))) fun x16 =>
(bn (guardB true x10) fun x17 =>
(bn (ifb x17 (binO .lss 3 false x12 x16)
(some (D.tup []))) fun x18 =>
(bn (mp (D.bool? x10) fun x19 => (ifb x19 x18
(D.bool false))) fun x19 =>
(bn (D.bool? x19) fun x20 =>
(ifb x20 (bn (indexAddrO 1 false (e.g 3) (e.g 4)) fun x21 =>
(bn (mp (mp (loadO false 1 x21 x3.2) fun x22 => (x22, x3.2)) fun x22 => x22.1) fun x22 =>
(bn (indexAddrO 1 false (e.g 3) (e.g 4)) fun x23 =>
(bn (mp (mp (loadO false 1 x23 x3.2) fun x24 => (x24, x3.2)) fun x24 => x24.1) fun x24 =>
(bn (indexAddrO 1 false x24 (e.g 6)) fun x25 =>
(bn (mp (mp (loadO false 1 x25 x3.2) fun x26 => (x26, x3.2)) fun x26 => x26.1) fun x26 =>
(bn (guardB false x26) fun x27 =>
(bn (ifb x27 (some (e.g 3))
(some (D.tup []))) fun x28 =>
(bn (guardB false x26) fun x29 =>
(bn (ifb x29 (some (e.g 5))
(some (D.tup []))) fun x30 =>
(bn (guardB false x26) fun x31 =>
(bn (ifb x31 (indexAddrO 1 false x28 x30)
(some (D.tup []))) fun x32 =>
(bn (guardB false x26) fun x33 =>
(bn (ifb x33 (mp (mp (loadO false 1 x32 x3.2) fun x34 => (x34, x3.2)) fun x34 => x34.1)
(some (D.tup []))) fun x34 =>
(bn (guardB false x26) fun x35 =>
(bn (ifb x35 (some (e.g 6))
(some (D.tup []))) fun x36 =>
(bn (guardB false x26) fun x37 =>
(bn (ifb x37 (indexAddrO 1 false x34 x36)
(some (D.tup []))) fun x38 =>
(bn (guardB false x26) fun x39 =>
(bn (ifb x39 (mp (mp (loadO false 1 x38 x3.2) fun x40 => (x40, x3.2)) fun x40 => x40.1)
(some (D.tup []))) fun x40 =>
(bn (mp (D.bool? x26) fun x41 => (ifb x41 (D.bool true)
 x40)) fun x41 =>
(bn (indexAddrO 1 false x22 (e.g 6)) fun x42 =>
(bn (mp (storeO false 1 x42 x41 x3.2) fun x43 => ((D.tup []), x43)) fun x43 =>
(@Mode.gs M ((Env × St) ⊕ ((Env × St) ⊕ ((Env × St) ⊕ (Res × St)))) True true (bn (binO .add 3 true (e.g 6) (n64 1)) fun x44 =>
(some (Sum.inl ((Env.mk (sp [(0, (e.g 0)), (2, (e.g 3)), (0, (e.g 4)), (0, (e.g 5)), (0, x44)] 84) (e).df), x43.2))))))))))))))))))))))))))))
(Option.map (Sum.inr ) (bn (binO .add 3 true (e.g 5) (n64 1)) fun x21 =>
(some (Sum.inl ((Env.mk (sp [(0, (e.g 0)), (2, (e.g 3)), (0, (e.g 4)), (0, x21)] 85) (e).df), x3.2)))))))))))))))))))))))))))
noncomputable def f75_s1 (M : Mode) (call : CallT) (dcall : DcallT) (e : Env) (A : St) : (Option ((Env × St) ⊕ ((Env × St) ⊕ (Res × St)))) :=
(bn (lenSlO (e.g 0)) fun x0 =>
(bn (binO .lss 3 false (e.g 5) x0) fun x1 =>
(bn (D.bool? x1) fun x2 =>
(ifb x2 (bn (indexAddrO 1 false (e.g 3) (e.g 4)) fun x3 =>
(bn (mp (mp (loadO false 1 x3 A) fun x4 => (x4, A)) fun x4 => x4.1) fun x4 =>
(bn (indexAddrO 1 false (e.g 3) (e.g 4)) fun x5 =>
(bn (mp (mp (loadO false 1 x5 A) fun x6 => (x6, A)) fun x6 => x6.1) fun x6 =>
(bn (indexAddrO 1 false x6 (e.g 5)) fun x7 =>
(bn (mp (mp (loadO false 1 x7 A) fun x8 => (x8, A)) fun x8 => x8.1) fun x8 =>
(bn (guardB false x8) fun x9 =>
(bn (ifb x9 (some (e.g 0))
(some (D.tup []))) fun x10 =>
(bn (guardB false x8) fun x11 =>
(bn (ifb x11 (some (e.g 4))
(some (D.tup []))) fun x12 =>
(bn (guardB false x8) fun x13 =>
(bn (ifb x13 (indexAddrO 1 false x10 x12)
(some (D.tup []))) fun x14 =>
(bn (guardB false x8) fun x15 =>
(bn (ifb x15 (mp (mp (loadO false 1 x14 A) fun x16 => (x16, A)) fun x16 => x16.1)
(some (D.tup []))) fun x16 =>
(bn (guardB false x8) fun x17 =>
(bn (ifb x17 (some (e.g 5))
(some (D.tup []))) fun x18 =>
(bn (guardB false x8) fun x19 =>
(bn (ifb x19 (indexAddrO 1 false x16 x18)
(some (D.tup []))) fun x20 =>
(bn (guardB false x8) fun x21 =>
(bn (ifb x21 (mp (mp (loadO false 1 x20 A) fun x22 => (x22, A)) fun x22 => x22.1)
(some (D.tup []))) fun x22 =>
(bn (mp (D.bool? x8) fun x23 => (ifb x23 (D.bool true)
 x22)) fun x23 =>
(bn (indexAddrO 1 false x4 (e.g 5)) fun x24 =>
(bn (mp (storeO false 1 x24 x23 A) fun x25 => ((D.tup []), x25)) fun x25 =>
(@Mode.gs M ((Env × St) ⊕ ((Env × St) ⊕ (Res × St))) True true (@Mode.it M ((Env × St) ⊕ ((Env × St) ⊕ (Res × St))) (f75_s0 M call dcall) (Env.mk (sp [(0, (e.g 0)), (2, (e.g 3)), (0, (e.g 4)), (0, (e.g 5)), (0, (e.g 5))] 84) (e).df) x25.2)))))))))))))))))))))))))
(Option.map (Sum.inr ) (bn (binO .sub 3 true (e.g 4) (n64 1)) fun x3 =>
(some (Sum.inl ((Env.mk (sp [(0, (e.g 0)), (2, (e.g 3)), (0, x3)] 86) (e).df), A)))))))))
noncomputable def f75_s2 (M : Mode) (call : CallT) (dcall : DcallT) (A : St) (e : Env) (Av5 : St) : (Option ((Env × St) ⊕ (Res × St))) :=
(bn (binO .geq 3 true (e.g 4) (n64 0)) fun x0 =>
(bn (D.bool? x0) fun x1 =>
(ifb x1 (@Mode.it M ((Env × St) ⊕ (Res × St)) (f75_s1 M call dcall) (Env.mk (sp [(0, (e.g 0)), (2, (e.g 3)), (0, (e.g 4)), (0, (e.g 4))] 85) (e).df) Av5)
(Option.map (Sum.inr ) (bn (leavesD dcall (fun (x2 : St) => (some (e.g 3))) (e).df none Av5) fun x2 =>
(leaveM M RetK.keep A x2.1 x2.2))))))
noncomputable def f75 (M : Mode) (call : CallT) (dcall : DcallT) (a0 : D) (A : St) : (Option (Res × St)) :=
(bn (lenSlO a0) fun x0 =>
(bn (binO .sub 3 true x0 (n64 1)) fun x1 =>
(bn (call 70 [x1] A) fun x2 =>
(Res.elim x2.1 (fun x3 => (bn (lenSlO a0) fun x4 =>
(bn (binO .sub 3 true x4 (n64 1)) fun x5 =>
(@Mode.it M (Res × St) (f75_s2 M call dcall A) (Env.mk (sp [(0, a0), (2, x3), (0, x5)] 86) []) x2.2)))) (fun x3 => (leaveM M RetK.keep A (Res.pan x3) x2.2))))))
theorem b75 (M : Mode) (call : CallT) (dcall : DcallT) (a0 : D) (A : St) : bodyN M Tryd.prog rxHint kk call dcall 75 [a0] A = f75 M call dcall a0.canon A := by
  kernel_rfl
theorem r75 (a0 : D) (A : St) : Run Tryd.prog rxA 75 [a0] A = f75 mL (Run Tryd.prog rxA) (Dcall Tryd.prog rxA) a0.canon A := (Run_eqN Tryd.prog rxA kk rfl rfl _ _).trans (b75 mL (Run Tryd.prog rxA) (Dcall Tryd.prog rxA) a0 A)
noncomputable def f76_s0 (M : Mode) (call : CallT) (dcall : DcallT) (A : St) (e : Env) (Av5 : St) : (Option ((Env × St) ⊕ (Res × St))) :=
(bn (nilCheckD (e.g 0)) fun x0 =>
(bn (fieldAddrO 0 x0) fun x1 =>
(bn (mp (Option.map (D.sl Own.full 1) (sliceParts 1 false 0 [(0, (D.str [(42 : UInt8)])), (1, (D.str [(43 : UInt8)])), (2, (D.str [(63 : UInt8)]))])) fun x2 => (x2, Av5)) fun x2 =>
(bn (call 53 [x1, x2.1] x2.2) fun x3 =>
(Res.elim x3.1 (fun x4 => (bn (extractD x4 0) fun x5 =>
(bn (extractD x4 1) fun x6 =>
(bn (unD UnOp.not x6) fun x7 =>
(bn (D.bool? x7) fun x8 =>
(ifb x8 (bn (mp (loadO true 3 (e.g 3) x3.2) fun x9 => (x9, x3.2)) fun x9 =>
(bn (mp (storeO true 3 (e.g 2) x9.1 x9.2) fun x10 => ((D.tup []), x10)) fun x10 =>
(Option.map (Sum.inr ) (bn (leavesD dcall (fun (x11 : St) => (Option.map packD (Option.bind (loadO true 3 (e.g 2) x11) (fun x12 => (some [x12]))))) (e).df none x10.2) fun x11 =>
(leaveM M RetK.can A x11.1 x11.2)))))
(bn (binO .eql 3 true x5 (D.str [(43 : UInt8)])) fun x9 =>
(bn (D.bool? x9) fun x10 =>
(bn (ifb x10 (some (Sum.inl ((Env.mk (sp [(0, (e.g 0)), (1, (e.g 2)), (0, (e.g 3)), (2, (n64 7))] 22) (e).df), x3.2)))
(bn (binO .eql 3 true x5 (D.str [(63 : UInt8)])) fun x11 =>
(bn (D.bool? x11) fun x12 =>
(bn (ifb x12 (some (Sum.inl ((Env.mk (sp [(0, (e.g 0)), (1, (e.g 2)), (0, (e.g 3)), (2, (n64 8))] 22) (e).df), x3.2)))
(some (Sum.inl ((Env.mk (sp [(0, (e.g 0)), (1, (e.g 2)), (0, (e.g 3)), (2, (n64 6))] 22) (e).df), x3.2)))) fun x13 =>
(Sum.elim (fun (x14 : (Env × St)) => (some (Sum.inl ((Env.mk (sp [(0, (x14.1.g 0)), (1, (x14.1.g 2)), (0, (x14.1.g 3)), (2, (x14.1.g 6))] 22) (x14.1).df), x14.2)))) (fun (x14 : ((Env × St) ⊕ ((Env × St) ⊕ (Res × St)))) => (some x14)) x13))))) fun x11 =>
(Sum.elim (fun (x12 : (Env × St)) => (bn (mp (loadO true 3 (x12.1.g 3) x12.2) fun x13 => (x13, x12.2)) fun x13 =>
(bn (mp (Option.map (D.sl Own.full 3) (sliceParts 3 true 0 [(0, x13.1)])) fun x14 => (x14, x13.2)) fun x14 =>
(bn (Option.map D.agg (Option.bind (layCells false 1 0 [(n64 0), (D.str []), (D.sl Own.full 0 [])] (x12.1.g 6)) (fun (x15 : (List D)) => (Option.bind (layCells false 1 2 x15 x14.1) (fun (x16 : (List D)) => (some x16)))))) fun x15 =>
(bn (mp (storeO true 3 (x12.1.g 3) x15 x14.2) fun x16 => ((D.tup []), x16)) fun x16 =>
(@Mode.gk M ((Env × St) ⊕ (Res × St)) Av5 x16.2 (some (Sum.inl ((Env.mk (sp [(0, (D.shut (List.length Av5) (x12.1.g 0))), (1, (D.shut (List.length Av5) (x12.1.g 2))), (0, (D.shut (List.length Av5) (x12.1.g 3))), (21, (D.shut (List.length Av5) (x12.1.g 6)))] 3) (List.map (fun (x17 : (D × (List D))) => ((D.shut (List.length Av5) x17.1), (D.shutL (List.length Av5) x17.2))) (x12.1).df)), (List.take (List.length Av5) x16.2)))))))))) (fun (x12 : ((Env × St) ⊕ (Res × St))) => (some x12)) x11)))))))))) (fun x4 => (Option.map (Sum.inr ) (bn (leavesD dcall (fun (x5 : St) => (Option.map packD (Option.bind (loadO true 3 (e.g 2) x5) (fun x6 => (some [x6]))))) (e).df (some x4) x3.2) fun x5 =>
(leaveM M RetK.can A x5.1 x5.2)))))))))
noncomputable def f76 (M : Mode) (call : CallT) (dcall : DcallT) (a0 : D) (A : St) : (Option (Res × St)) :=
(bn (allocO [(n64 0), (D.str []), (D.sl Own.full 0 [])] A) fun x0 =>
(bn (call 97 [a0] x0.2) fun x1 =>
(Res.elim x1.1 (fun x2 => (bn (allocO [(n64 0), (D.str []), (D.sl Own.full 0 [])] x1.2) fun x3 =>
(bn (mp (storeO true 3 x3.1 x2 x3.2) fun x4 => ((D.tup []), x4)) fun x4 =>
(@Mode.it M (Res × St) (f76_s0 M call dcall A) (Env.mk (sp [(0, a0), (1, x0.1), (0, x3.1), (21, (D.tup []))] 3) []) x4.2)))) (fun x2 => (leaveM M RetK.can A (Res.pan x2) x1.2)))))
theorem b76 (M : Mode) (call : CallT) (dcall : DcallT) (a0 : D) (A : St) : bodyN M Tryd.prog rxHint kk call dcall 76 [a0] A = f76 M call dcall a0.canon A := by
  kernel_rfl
noncomputable def f77 (M : Mode) (call : CallT) (dcall : DcallT) (a0 : D) (A : St) : (Option (Res × St)) :=
(bn (nilCheckD a0) fun x0 =>
(bn (fieldAddrO 1 x0) fun x1 =>
(bn (mp (mp (loadO false 1 x1 A) fun x2 => (x2, A)) fun x2 => x2.1) fun x2 =>
(bn (nilCheckD a0) fun x3 =>
(bn (fieldAddrO 0 x3) fun x4 =>
(bn (mp (mp (loadO false 1 x4 A) fun x5 => (x5, A)) fun x5 => x5.1) fun x5 =>
(bn (lenSlO x5) fun x6 =>
(bn (binO .lss 3 false x2 x6) fun x7 =>
(@Mode.gs M (Res × St) True true (bn (D.bool? x7) fun x8 =>
(ifb x8 (bn (nilCheckD a0) fun x9 =>
(bn (fieldAddrO 0 x9) fun x10 =>
(bn (mp (mp (loadO false 1 x10 A) fun x11 => (x11, A)) fun x11 => x11.1) fun x11 =>
(bn (nilCheckD a0) fun x12 =>
(bn (fieldAddrO 1 x12) fun x13 =>
(bn (mp (mp (loadO false 1 x13 A) fun x14 => (x14, A)) fun x14 => x14.1) fun x14 =>
(bn (indexAddrO 3 true x11 x14) fun x15 =>
(bn (fieldAddrO 0 x15) fun x16 =>
(bn (mp (mp (loadO false 1 x16 A) fun x17 => (x17, A)) fun x17 => x17.1) fun x17 =>
(@Mode.gs M (Res × St) True true (leaveM M RetK.can A (Res.ret x17) A)))))))))))
(leaveM M RetK.can A (Res.ret (D.str [])) A))))))))))))
theorem b77 (M : Mode) (call : CallT) (dcall : DcallT) (a0 : D) (A : St) : bodyN M Tryd.prog rxHint kk call dcall 77 [a0] A = f77 M call dcall a0.canon A := by
  kernel_rfl
noncomputable def f78_s0 (M : Mode) (call : CallT) (dcall : DcallT) (A : St) (e : Env) (Av5 : St) : (Option ((Env × St) ⊕ (Res × St))) :=
(bn (nilCheckD (e.g 0)) fun x0 =>
(bn (fieldAddrO 3 x0) fun x1 =>
(bn (mp (loadO false 1 x1 Av5) fun x2 => (x2, Av5)) fun x2 =>
(bn (binO .eql 3 true x2.1 (n64 0)) fun x3 =>
(bn (D.bool? x3) fun x4 =>
(ifb x4 (bn (call 56 [(e.g 0)] x2.2) fun x5 =>
(Res.elim x5.1 (fun x6 => (bn (binO .eql 3 true x6 (D.str [(42 : UInt8)])) fun x7 =>
(bn (D.bool? x7) fun x8 =>
(bn (ifb x8 (some (Sum.inl ((Env.mk (sp [(0, (e.g 0)), (1, (e.g 2)), (0, (e.g 3)), (0, (n64 6)), (20, (e.g 25))] 9) (e).df), x5.2)))
(bn (binO .eql 3 true x6 (D.str [(43 : UInt8)])) fun x9 =>
(bn (D.bool? x9) fun x10 =>
(bn (ifb x10 (some (Sum.inl ((Env.mk (sp [(0, (e.g 0)), (1, (e.g 2)), (0, (e.g 3)), (0, (n64 7)), (20, (e.g 25))] 9) (e).df), x5.2)))
(bn (binO .eql 3 true x6 (D.str [(63 : UInt8)])) fun x11 =>
(bn (D.bool? x11) fun x12 =>
(bn (ifb x12 (some (Sum.inl ((Env.mk (sp [(0, (e.g 0)), (1, (e.g 2)), (0, (e.g 3)), (0, (n64 8)), (20, (e.g 25))] 9) (e).df), x5.2)))
(some (Sum.inl ((Env.mk (sp [(0, (e.g 0)), (1, (e.g 2)), (0, (e.g 3)), (0, (n64 0)), (20, (e.g 25))] 9) (e).df), x5.2)))) fun x13 =>
(Sum.elim (fun (x14 : (Env × St)) => (some (Sum.inl ((Env.mk (sp [(0, (x14.1.g 0)), (1, (x14.1.g 2)), (0, (x14.1.g 3)), (0, (x14.1.g 4)), (20, (x14.1.g 25))] 9) (x14.1).df), x14.2)))) (fun (x14 : ((Env × St) ⊕ ((Env × St) ⊕ ((Env × St) ⊕ (Res × St))))) => (some x14)) x13))))) fun x11 =>
(Sum.elim (fun (x12 : (Env × St)) => (some (Sum.inl ((Env.mk (sp [(0, (x12.1.g 0)), (1, (x12.1.g 2)), (0, (x12.1.g 3)), (0, (x12.1.g 4)), (20, (x12.1.g 25))] 9) (x12.1).df), x12.2)))) (fun (x12 : ((Env × St) ⊕ ((Env × St) ⊕ (Res × St)))) => (some x12)) x11))))) fun x9 =>
(Sum.elim (fun (x10 : (Env × St)) => (bn (binO .eql 3 true (x10.1.g 4) (n64 0)) fun x11 =>
(bn (D.bool? x11) fun x12 =>
(ifb x12 (bn (mp (loadO true 3 (x10.1.g 3) x10.2) fun x13 => (x13, x10.2)) fun x13 =>
(bn (mp (storeO true 3 (x10.1.g 2) x13.1 x13.2) fun x14 => ((D.tup []), x14)) fun x14 =>
(Option.map (Sum.inr ) (bn (leavesD dcall (fun (x15 : St) => (Option.map packD (Option.bind (loadO true 3 (x10.1.g 2) x15) (fun x16 => (some [x16]))))) (x10.1).df none x14.2) fun x15 =>
(leaveM M RetK.can A x15.1 x15.2)))))
(bn (mp (loadO true 3 (x10.1.g 3) x10.2) fun x13 => (x13, x10.2)) fun x13 =>
(bn (mp (Option.map (D.sl Own.full 3) (sliceParts 3 true 0 [(0, x13.1)])) fun x14 => (x14, x13.2)) fun x14 =>
(bn (Option.map D.agg (Option.bind (layCells false 1 0 [(n64 0), (D.str []), (D.sl Own.full 0 [])] (x10.1.g 4)) (fun (x15 : (List D)) => (Option.bind (layCells false 1 2 x15 x14.1) (fun (x16 : (List D)) => (some x16)))))) fun x15 =>
(bn (mp (storeO true 3 (x10.1.g 3) x15 x14.2) fun x16 => ((D.tup []), x16)) fun x16 =>
(bn (nilCheckD (x10.1.g 0)) fun x17 =>
(bn (fieldAddrO 1 x17) fun x18 =>
(bn (mp (loadO false 1 x18 x16.2) fun x19 => (x19, x16.2)) fun x19 =>
(bn (binO .add 3 true x19.1 (n64 1)) fun x20 =>
(bn (nilCheckD (x10.1.g 0)) fun x21 =>
(bn (fieldAddrO 1 x21) fun x22 =>
(bn (mp (storeO false 1 x22 x20 x19.2) fun x23 => ((D.tup []), x23)) fun x23 =>
(@Mode.gk M ((Env × St) ⊕ (Res × St)) Av5 x23.2 (some (Sum.inl ((Env.mk (sp [(0, (D.shut (List.length Av5) (x10.1.g 0))), (1, (D.shut (List.length Av5) (x10.1.g 2))), (0, (D.shut (List.length Av5) (x10.1.g 3))), (21, (D.shut (List.length Av5) x14.1))] 9) (List.map (fun (x24 : (D × (List D))) => ((D.shut (List.length Av5) x24.1), (D.shutL (List.length Av5) x24.2))) (x10.1).df)), (List.take (List.length Av5) x23.2)))))))))))))))))))) (fun (x10 : ((Env × St) ⊕ (Res × St))) => (some x10)) x9))))) (fun x6 => (Option.map (Sum.inr ) (bn (leavesD dcall (fun (x7 : St) => (Option.map packD (Option.bind (loadO true 3 (e.g 2) x7) (fun x8 => (some [x8]))))) (e).df (some x6) x5.2) fun x7 =>
(leaveM M RetK.can A x7.1 x7.2))))))
(Option.map (Sum.inr ) (bn (mp (loadO true 3 (e.g 3) x2.2) fun x5 => (x5, x2.2)) fun x5 =>
(bn (mp (storeO true 3 (e.g 2) x5.1 x5.2) fun x6 => ((D.tup []), x6)) fun x6 =>
(bn (leavesD dcall (fun (x7 : St) => (Option.map packD (Option.bind (loadO true 3 (e.g 2) x7) (fun x8 => (some [x8]))))) (e).df none x6.2) fun x7 =>
(leaveM M RetK.can A x7.1 x7.2)))))))))))
noncomputable def f78 (M : Mode) (call : CallT) (dcall : DcallT) (a0 : D) (A : St) : (Option (Res × St)) :=
(bn (allocO [(n64 0), (D.str []), (D.sl Own.full 0 [])] A) fun x0 =>
(bn (call 98 [a0] x0.2) fun x1 =>
(Res.elim x1.1 (fun x2 => (bn (allocO [(n64 0), (D.str []), (D.sl Own.full 0 [])] x1.2) fun x3 =>
(bn (mp (storeO true 3 x3.1 x2 x3.2) fun x4 => ((D.tup []), x4)) fun x4 =>
(@Mode.it M (Res × St) (f78_s0 M call dcall A) (Env.mk (sp [(0, a0), (1, x0.1), (0, x3.1), (21, (D.tup []))] 9) []) x4.2)))) (fun x2 => (leaveM M RetK.can A (Res.pan x2) x1.2)))))
theorem b78 (M : Mode) (call : CallT) (dcall : DcallT) (a0 : D) (A : St) : bodyN M Tryd.prog rxHint kk call dcall 78 [a0] A = f78 M call dcall a0.canon A := by
  kernel_rfl
noncomputable def f79 (M : Mode) (call : CallT) (dcall : DcallT) (a0 : D) (A : St) : (Option (Res × St)) :=
(bn (call 56 [a0] A) fun x0 =>
(Res.elim x0.1 (fun x1 => (bn (binO .eql 3 true x1 (D.str [(36 : UInt8)])) fun x2 =>
(bn (guardB false x2) fun x3 =>
(bn (ifb x3 (some x1)
(some (D.tup []))) fun x4 =>
(bn (guardB false x2) fun x5 =>
(bn (ifb x5 (binO .eql 3 true x4 (D.str [(46 : UInt8)]))
(some (D.tup []))) fun x6 =>
(bn (mp (D.bool? x2) fun x7 => (ifb x7 (D.bool true)
 x6)) fun x7 =>
(bn (guardB false x7) fun x8 =>
(bn (ifb x8 (some x1)
(some (D.tup []))) fun x9 =>
(bn (guardB false x7) fun x10 =>
(bn (ifb x10 (binO .eql 3 true x9 (D.str [(40 : UInt8)]))
(some (D.tup []))) fun x11 =>
(bn (mp (D.bool? x7) fun x12 => (ifb x12 (D.bool true)
 x11)) fun x12 =>
(bn (guardB false x12) fun x13 =>
(bn (ifb x13 (some x1)
(some (D.tup []))) fun x14 =>
(bn (guardB false x12) fun x15 =>
(bn (ifb x15 (call 80 [x14] x0.2)
(some ((Res.ret (D.tup [])), x0.2))) fun x16 =>
(Res.elim x16.1 (fun x17 => (bn (mp (D.bool? x12) fun x18 => (ifb x18 (D.bool true)
 x17)) fun x18 =>
(leaveM M RetK.can A (Res.ret x18) x16.2))) (fun x17 => (leaveM M RetK.can A (Res.pan x17) x16.2))))))))))))))))))) (fun x1 => (leaveM M RetK.can A (Res.pan x1) x0.2))))
theorem b79 (M : Mode) (call : CallT) (dcall : DcallT) (a0 : D) (A : St) : bodyN M Tryd.prog rxHint kk call dcall 79 [a0] A = f79 M call dcall a0.canon A := by
  kernel_rfl
noncomputable def f80_s0 (M : Mode) (call : CallT) (dcall : DcallT) (A : St) (e : Env) (Av5 : St) : (Option ((Env × St) ⊕ (Res × St))) :=
(bn (lenStrO (e.g 0)) fun x0 =>
(bn (binO .lss 3 false (e.g 3) x0) fun x1 =>
(bn (D.bool? x1) fun x2 =>
(ifb x2 (bn (indexStrO (e.g 0) (e.g 3)) fun x3 =>
(bn (call 95 [x3] Av5) fun x4 =>
(Res.elim x4.1 (fun x5 => (bn (unD UnOp.not x5) fun x6 =>
(bn (D.bool? x6) fun x7 =>
(ifb x7 (Option.map (Sum.inr ) (bn (leavesD dcall (fun (x8 : St) => (some (D.bool false))) (e).df none x4.2) fun x8 =>
(leaveM M RetK.can A x8.1 x8.2)))
(bn (binO .add 3 true (e.g 3) (n64 1)) fun x8 =>
(@Mode.gk M ((Env × St) ⊕ (Res × St)) Av5 x4.2 (some (Sum.inl ((Env.mk (sp [(0, (D.shut (List.length Av5) (e.g 0))), (2, (D.shut (List.length Av5) x8))] 29) (List.map (fun (x9 : (D × (List D))) => ((D.shut (List.length Av5) x9.1), (D.shutL (List.length Av5) x9.2))) (e).df)), (List.take (List.length Av5) x4.2)))))))))) (fun x5 => (Option.map (Sum.inr ) (bn (leavesD dcall (fun (x6 : St) => (some (e.g 2))) (e).df (some x5) x4.2) fun x6 =>
(leaveM M RetK.can A x6.1 x6.2)))))))
(Option.map (Sum.inr ) (bn (binO .neq 3 true (e.g 0) (D.str [])) fun x3 =>
(bn (guardB true x3) fun x4 =>
(bn (ifb x4 (some (e.g 0))
(some (D.tup []))) fun x5 =>
(bn (guardB true x3) fun x6 =>
(bn (ifb x6 (lenStrO x5)
(some (D.tup []))) fun x7 =>
(bn (guardB true x3) fun x8 =>
(bn (ifb x8 (binO .leq 3 true x7 (n64 64))
(some (D.tup []))) fun x9 =>
(bn (mp (D.bool? x3) fun x10 => (ifb x10 x9
(D.bool false))) fun x10 =>
(bn (guardB true x10) fun x11 =>
(bn (ifb x11 (some (e.g 0))
(some (D.tup []))) fun x12 =>
(bn (guardB true x10) fun x13 =>
(bn (ifb x13 (indexStrO x12 (n64 0))
(some (D.tup []))) fun x14 =>
(bn (guardB true x10) fun x15 =>
(bn (ifb x15 (call 99 [x14] Av5)
(some ((Res.ret (D.tup [])), Av5))) fun x16 =>
(Res.elim x16.1 (fun x17 => (bn (guardB true x10) fun x18 =>
(bn (ifb x18 (unD UnOp.not x17)
(some (D.tup []))) fun x19 =>
(bn (mp (D.bool? x10) fun x20 => (ifb x20 x19
(D.bool false))) fun x20 =>
(bn (guardB true x20) fun x21 =>
(bn (ifb x21 (some (e.g 0))
(some (D.tup []))) fun x22 =>
(bn (guardB true x20) fun x23 =>
(bn (ifb x23 (indexStrO x22 (n64 0))
(some (D.tup []))) fun x24 =>
(bn (guardB true x20) fun x25 =>
(bn (ifb x25 (binO .neq 3 true x24 (D.int IntKind.u8 (45 : Int)))
(some (D.tup []))) fun x26 =>
(bn (mp (D.bool? x20) fun x27 => (ifb x27 x26
(D.bool false))) fun x27 =>
(bn (leavesD dcall (fun (x28 : St) => (some x27)) (e).df none x16.2) fun x28 =>
(leaveM M RetK.can A x28.1 x28.2))))))))))))) (fun x17 => (bn (leavesD dcall (fun (x18 : St) => (some (e.g 2))) (e).df (some x17) x16.2) fun x18 =>
(leaveM M RetK.can A x18.1 x18.2)))))))))))))))))))))))
noncomputable def f80 (M : Mode) (call : CallT) (dcall : DcallT) (a0 : D) (A : St) : (Option (Res × St)) :=
(@Mode.it M (Res × St) (f80_s0 M call dcall A) (Env.mk (sp [(0, a0), (2, (n64 0))] 29) []) A)
theorem b80 (M : Mode) (call : CallT) (dcall : DcallT) (a0 : D) (A : St) : bodyN M Tryd.prog rxHint kk call dcall 80 [a0] A = f80 M call dcall a0.canon A := by
  kernel_rfl
theorem r80 (a0 : D) (A : St) : Run Tryd.prog rxA 80 [a0] A = f80 mL (Run Tryd.prog rxA) (Dcall Tryd.prog rxA) a0.canon A := (Run_eqN Tryd.prog rxA kk rfl rfl _ _).trans (b80 mL (Run Tryd.prog rxA) (Dcall Tryd.prog rxA) a0 A)
noncomputable def f81_s0 (M : Mode) (call : CallT) (dcall : DcallT) (A : St) (e : Env) (Av5 : St) : (Option ((Env × St) ⊕ (Res × St))) :=
(bn (lenSlO (e.g 0)) fun x0 =>
(bn (binO .lss 3 false (e.g 5) x0) fun x1 =>
(bn (D.bool? x1) fun x2 =>
(ifb x2 (bn (indexAddrO 3 true (e.g 0) (e.g 5)) fun x3 =>
(bn (fieldAddrO 0 x3) fun x4 =>
(bn (mp (loadO false 1 x4 Av5) fun x5 => (x5, Av5)) fun x5 =>
(bn (binO .eql 3 false x5.1 (e.g 1)) fun x6 =>
(bn (D.bool? x6) fun x7 =>
(ifb x7 (Option.map (Sum.inr ) (bn (leavesD dcall (fun (x8 : St) => (some (D.bool false))) (e).df none x5.2) fun x8 =>
(leaveM M RetK.can A x8.1 x8.2)))
(bn (binO .add 3 true (e.g 5) (n64 1)) fun x8 =>
(@Mode.gk M ((Env × St) ⊕ (Res × St)) Av5 x5.2 (some (Sum.inl ((Env.mk (sp [(0, (D.shut (List.length Av5) (e.g 0))), (0, (D.shut (List.length Av5) (e.g 1))), (3, (D.shut (List.length Av5) x8))] 13) (List.map (fun (x9 : (D × (List D))) => ((D.shut (List.length Av5) x9.1), (D.shutL (List.length Av5) x9.2))) (e).df)), (List.take (List.length Av5) x5.2))))))))))))
(Option.map (Sum.inr ) (bn (leavesD dcall (fun (x3 : St) => (some (D.bool true))) (e).df none Av5) fun x3 =>
(leaveM M RetK.can A x3.1 x3.2)))))))
noncomputable def f81 (M : Mode) (call : CallT) (dcall : DcallT) (a0 : D) (a1 : D) (A : St) : (Option (Res × St)) :=
(@Mode.it M (Res × St) (f81_s0 M call dcall A) (Env.mk (sp [(0, a0), (0, a1), (3, (n64 0))] 13) []) A)
theorem b81 (M : Mode) (call : CallT) (dcall : DcallT) (a0 a1 : D) (A : St) : bodyN M Tryd.prog rxHint kk call dcall 81 [a0, a1] A = f81 M call dcall a0.canon a1.canon A := by
  kernel_rfl
theorem r81 (a0 a1 : D) (A : St) : Run Tryd.prog rxA 81 [a0, a1] A = f81 mL (Run Tryd.prog rxA) (Dcall Tryd.prog rxA) a0.canon a1.canon A := (Run_eqN Tryd.prog rxA kk rfl rfl _ _).trans (b81 mL (Run Tryd.prog rxA) (Dcall Tryd.prog rxA) a0 a1 A)
noncomputable def f83 (M : Mode) (call : CallT) (dcall : DcallT) (a0 : D) (A : St) : (Option (Res × St)) :=
(bn (call 93 [a0] A) fun x0 =>
(Res.elim x0.1 (fun x1 => (bn (guardB false x1) fun x2 =>
(bn (ifb x2 (some a0)
(some (D.tup []))) fun x3 =>
(bn (guardB false x1) fun x4 =>
(bn (ifb x4 (lenStrO x3)
(some (D.tup []))) fun x5 =>
(bn (guardB false x1) fun x6 =>
(bn (ifb x6 (binO .eql 3 true x5 (n64 1))
(some (D.tup []))) fun x7 =>
(bn (guardB false x1) fun x8 =>
(bn (ifb x8 (some x7)
(some (D.tup []))) fun x9 =>
(bn (guardB true x9) fun x10 =>
(bn (ifb x10 (some a0)
(some (D.tup []))) fun x11 =>
(bn (guardB true x9) fun x12 =>
(bn (ifb x12 (indexStrO x11 (n64 0))
(some (D.tup []))) fun x13 =>
(bn (guardB true x9) fun x14 =>
(bn (ifb x14 (call 94 [x13] x0.2)
(some ((Res.ret (D.tup [])), x0.2))) fun x15 =>
(Res.elim x15.1 (fun x16 => (bn (guardB false x1) fun x17 =>
(bn (ifb x17 (mp (D.bool? x9) fun x18 => (ifb x18 x16
(D.bool false)))
(some (D.tup []))) fun x18 =>
(bn (mp (D.bool? x1) fun x19 => (ifb x19 (D.bool true)
 x18)) fun x19 =>
(leaveM M RetK.can A (Res.ret x19) x15.2))))) (fun x16 => (leaveM M RetK.can A (Res.pan x16) x15.2)))))))))))))))))) (fun x1 => (leaveM M RetK.can A (Res.pan x1) x0.2))))
theorem b83 (M : Mode) (call : CallT) (dcall : DcallT) (a0 : D) (A : St) : bodyN M Tryd.prog rxHint kk call dcall 83 [a0] A = f83 M call dcall a0.canon A := by
  kernel_rfl
noncomputable def f84 (M : Mode) (call : CallT) (dcall : DcallT) (a0 : D) (A : St) : (Option (Res × St)) :=
(bn (binO .geq 3 true a0 (D.int IntKind.u8 (48 : Int))) fun x0 =>
(bn (guardB true x0) fun x1 =>
(bn (ifb x1 (some a0)
(some (D.tup []))) fun x2 =>
(bn (guardB true x0) fun x3 =>
(bn (ifb x3 (binO .leq 3 true x2 (D.int IntKind.u8 (57 : Int)))
(some (D.tup []))) fun x4 =>
(bn (mp (D.bool? x0) fun x5 => (ifb x5 x4
(D.bool false))) fun x5 =>
(leaveM M RetK.can A (Res.ret x5) A)))))))
theorem b84 (M : Mode) (call : CallT) (dcall : DcallT) (a0 : D) (A : St) : bodyN M Tryd.prog rxHint kk call dcall 84 [a0] A = f84 M call dcall a0.canon A := by
  kernel_rfl
theorem r84 (a0 : D) (A : St) : Run Tryd.prog rxA 84 [a0] A = f84 mL (Run Tryd.prog rxA) (Dcall Tryd.prog rxA) a0.canon A := (Run_eqN Tryd.prog rxA kk rfl rfl _ _).trans (b84 mL (Run Tryd.prog rxA) (Dcall Tryd.prog rxA) a0 A)
noncomputable def f85 (M : Mode) (call : CallT) (dcall : DcallT) (a0 : D) (A : St) : (Option (Res × St)) :=
(bn (binO .or 3 true a0 (D.int IntKind.u8 (32 : Int))) fun x0 =>
(bn (binO .geq 3 true x0 (D.int IntKind.u8 (97 : Int))) fun x1 =>
(bn (guardB true x1) fun x2 =>
(bn (ifb x2 (some x0)
(some (D.tup []))) fun x3 =>
(bn (guardB true x1) fun x4 =>
(bn (ifb x4 (binO .leq 3 true x3 (D.int IntKind.u8 (122 : Int)))
(some (D.tup []))) fun x5 =>
(bn (mp (D.bool? x1) fun x6 => (ifb x6 x5
(D.bool false))) fun x6 =>
(bn (guardB false x6) fun x7 =>
(bn (ifb x7 (some a0)
(some (D.tup []))) fun x8 =>
(bn (guardB false x6) fun x9 =>
(bn (ifb x9 (call 84 [x8] A)
(some ((Res.ret (D.tup [])), A))) fun x10 =>
(Res.elim x10.1 (fun x11 => (bn (mp (D.bool? x6) fun x12 => (ifb x12 (D.bool true)
 x11)) fun x12 =>
(bn (guardB false x12) fun x13 =>
(bn (ifb x13 (some a0)
(some (D.tup []))) fun x14 =>
(bn (guardB false x12) fun x15 =>
(bn (ifb x15 (binO .eql 3 true x14 (D.int IntKind.u8 (95 : Int)))
(some (D.tup []))) fun x16 =>
(bn (mp (D.bool? x12) fun x17 => (ifb x17 (D.bool true)
 x16)) fun x17 =>
(bn (guardB false x17) fun x18 =>
(bn (ifb x18 (some a0)
(some (D.tup []))) fun x19 =>
(bn (guardB false x17) fun x20 =>
(bn (ifb x20 (binO .eql 3 true x19 (D.int IntKind.u8 (45 : Int)))
(some (D.tup []))) fun x21 =>
(bn (mp (D.bool? x17) fun x22 => (ifb x22 (D.bool true)
 x21)) fun x22 =>
(leaveM M RetK.can A (Res.ret x22) x10.2))))))))))))) (fun x11 => (leaveM M RetK.can A (Res.pan x11) x10.2))))))))))))))
theorem b85 (M : Mode) (call : CallT) (dcall : DcallT) (a0 : D) (A : St) : bodyN M Tryd.prog rxHint kk call dcall 85 [a0] A = f85 M call dcall a0.canon A := by
  kernel_rfl
theorem r85 (a0 : D) (A : St) : Run Tryd.prog rxA 85 [a0] A = f85 mL (Run Tryd.prog rxA) (Dcall Tryd.prog rxA) a0.canon A := (Run_eqN Tryd.prog rxA kk rfl rfl _ _).trans (b85 mL (Run Tryd.prog rxA) (Dcall Tryd.prog rxA) a0 A)
noncomputable def f86_s0 (M : Mode) (call : CallT) (dcall : DcallT) (A : St) (e : Env) (Av5 : St) : (Option ((Env × St) ⊕ (Res × St))) :=
(bn (binO .lss 3 false (e.g 8) (e.g 7)) fun x0 =>
(bn (D.bool? x0) fun x1 =>
(ifb x1 (bn (indexAddrO 3 true (e.g 0) (e.g 8)) fun x2 =>
(bn (mp (loadO true 3 x2 Av5) fun x3 => (x3, Av5)) fun x3 =>
(bn (applyD call (e.g 1) [x3.1] x3.2) fun x4 =>
(Res.elim x4.1 (fun x5 => (bn (D.bool? x5) fun x6 =>
(ifb x6 (Option.map (Sum.inr ) (bn (leavesD dcall (fun (x7 : St) => (some (e.g 8))) (e).df none x4.2) fun x7 =>
(leaveM M RetK.can A x7.1 x7.2)))
(bn (binO .add 3 true (e.g 8) (n64 1)) fun x7 =>
(@Mode.gk M ((Env × St) ⊕ (Res × St)) Av5 x4.2 (some (Sum.inl ((Env.mk (sp [(0, (D.shut (List.length Av5) (e.g 0))), (0, (D.shut (List.length Av5) (e.g 1))), (5, (D.shut (List.length Av5) (e.g 7))), (0, (D.shut (List.length Av5) x7))] 10) (List.map (fun (x8 : (D × (List D))) => ((D.shut (List.length Av5) x8.1), (D.shutL (List.length Av5) x8.2))) (e).df)), (List.take (List.length Av5) x4.2))))))))) (fun x5 => (Option.map (Sum.inr ) (bn (leavesD dcall (fun (x6 : St) => (some (e.g 4))) (e).df (some x5) x4.2) fun x6 =>
(leaveM M RetK.can A x6.1 x6.2))))))))
(Option.map (Sum.inr ) (bn (leavesD dcall (fun (x2 : St) => (some (n64 (-1)))) (e).df none Av5) fun x2 =>
(leaveM M RetK.can A x2.1 x2.2))))))
noncomputable def f86 (M : Mode) (call : CallT) (dcall : DcallT) (a0 : D) (a1 : D) (A : St) : (Option (Res × St)) :=
(bn (lenSlO a0) fun x0 =>
(@Mode.it M (Res × St) (f86_s0 M call dcall A) (Env.mk (sp [(0, a0), (0, a1), (5, x0), (0, (n64 0))] 10) []) A))
theorem b86 (M : Mode) (call : CallT) (dcall : DcallT) (a0 a1 : D) (A : St) : bodyN M Tryd.prog rxHint kk call dcall 86 [a0, a1] A = f86 M call dcall a0.canon a1.canon A := by
  kernel_rfl
theorem r86 (a0 a1 : D) (A : St) : Run Tryd.prog rxA 86 [a0, a1] A = f86 mL (Run Tryd.prog rxA) (Dcall Tryd.prog rxA) a0.canon a1.canon A := (Run_eqN Tryd.prog rxA kk rfl rfl _ _).trans (b86 mL (Run Tryd.prog rxA) (Dcall Tryd.prog rxA) a0 a1 A)
noncomputable def f87_s0 (M : Mode) (call : CallT) (dcall : DcallT) (A : St) (e : Env) (Av5 : St) : (Option ((Env × St) ⊕ (Res × St))) :=
(bn (mp (loadO false 1 (e.g 2) Av5) fun x0 => (x0, Av5)) fun x0 =>
(bn (lenStrO x0.1) fun x1 =>
(bn (binO .gtr 3 true x1 (n64 0)) fun x2 =>
(bn (D.bool? x2) fun x3 =>
(ifb x3 (bn (mp (loadO false 1 (e.g 2) x0.2) fun x4 => (x4, x0.2)) fun x4 =>
(bn (call 88 [x4.1] x4.2) fun x5 =>
(Res.elim x5.1 (fun x6 => (bn (extractD x6 0) fun x7 =>
(bn (extractD x6 1) fun x8 =>
(bn (mp (loadO false 1 (e.g 2) x5.2) fun x9 => (x9, x5.2)) fun x9 =>
(bn (sliceStrO x9.1 none (some x8) none) fun x10 =>
(bn (applyD call (e.g 0) [x10] x9.2) fun x11 =>
(Res.elim x11.1 (fun x12 => (bn (unD UnOp.not x12) fun x13 =>
(bn (D.bool? x13) fun x14 =>
(ifb x14 (Option.map (Sum.inr ) (bn (leavesD dcall (fun (x15 : St) => (some (D.tup []))) (e).df none x11.2) fun x15 =>
(leaveM M RetK.can A x15.1 x15.2)))
(bn (mp (loadO false 1 (e.g 2) x11.2) fun x15 => (x15, x11.2)) fun x15 =>
(bn (sliceStrO x15.1 (some x8) none none) fun x16 =>
(bn (mp (storeO false 1 (e.g 2) x16 x15.2) fun x17 => ((D.tup []), x17)) fun x17 =>
(@Mode.gk M ((Env × St) ⊕ (Res × St)) Av5 x17.2 (some (Sum.inl ((Env.mk (sp [(0, (D.shut (List.length Av5) (e.g 0))), (1, (D.shut (List.length Av5) (e.g 2)))] 49) (List.map (fun (x18 : (D × (List D))) => ((D.shut (List.length Av5) x18.1), (D.shutL (List.length Av5) x18.2))) (e).df)), (List.take (List.length Av5) x17.2)))))))))))) (fun x12 => (Option.map (Sum.inr ) (bn (leavesD dcall (fun (x13 : St) => (some (D.tup []))) (e).df (some x12) x11.2) fun x13 =>
(leaveM M RetK.can A x13.1 x13.2))))))))))) (fun x6 => (Option.map (Sum.inr ) (bn (leavesD dcall (fun (x7 : St) => (some (D.tup []))) (e).df (some x6) x5.2) fun x7 =>
(leaveM M RetK.can A x7.1 x7.2)))))))
(Option.map (Sum.inr ) (bn (leavesD dcall (fun (x4 : St) => (some (D.tup []))) (e).df none x0.2) fun x4 =>
(leaveM M RetK.can A x4.1 x4.2))))))))
noncomputable def f87_s1 (M : Mode) (call : CallT) (dcall : DcallT) (A : St) (e : Env) (Av5 : St) : (Option ((Env × St) ⊕ (Res × St))) :=
(bn (mp (loadO false 1 (e.g 2) Av5) fun x0 => (x0, Av5)) fun x0 =>
(bn (mp (loadO false 1 (e.g 1) x0.2) fun x1 => (x1, x0.2)) fun x1 =>
(bn (call 89 [x0.1, x1.1] x1.2) fun x2 =>
(Res.elim x2.1 (fun x3 => (bn (binO .lss 3 true x3 (n64 0)) fun x4 =>
(bn (D.bool? x4) fun x5 =>
(ifb x5 (Option.map (Sum.inr ) (bn (mp (loadO false 1 (e.g 2) x2.2) fun x6 => (x6, x2.2)) fun x6 =>
(bn (applyD call (e.g 0) [x6.1] x6.2) fun x7 =>
(Res.elim x7.1 (fun x8 => (bn (leavesD dcall (fun (x9 : St) => (some (D.tup []))) (e).df none x7.2) fun x9 =>
(leaveM M RetK.can A x9.1 x9.2))) (fun x8 => (bn (leavesD dcall (fun (x9 : St) => (some (D.tup []))) (e).df (some x8) x7.2) fun x9 =>
(leaveM M RetK.can A x9.1 x9.2)))))))
(bn (mp (loadO false 1 (e.g 2) x2.2) fun x6 => (x6, x2.2)) fun x6 =>
(bn (mp (loadO false 1 (e.g 3) x6.2) fun x7 => (x7, x6.2)) fun x7 =>
(bn (binO .add 3 false x3 x7.1) fun x8 =>
(bn (sliceStrO x6.1 none (some x8) none) fun x9 =>
(bn (applyD call (e.g 0) [x9] x7.2) fun x10 =>
(Res.elim x10.1 (fun x11 => (bn (unD UnOp.not x11) fun x12 =>
(bn (D.bool? x12) fun x13 =>
(ifb x13 (Option.map (Sum.inr ) (bn (leavesD dcall (fun (x14 : St) => (some (D.tup []))) (e).df none x10.2) fun x14 =>
(leaveM M RetK.can A x14.1 x14.2)))
(bn (mp (loadO false 1 (e.g 2) x10.2) fun x14 => (x14, x10.2)) fun x14 =>
(bn (mp (loadO false 1 (e.g 1) x14.2) fun x15 => (x15, x14.2)) fun x15 =>
(bn (lenStrO x15.1) fun x16 =>
(bn (binO .add 3 false x3 x16) fun x17 =>
(bn (sliceStrO x14.1 (some x17) none none) fun x18 =>
(bn (mp (storeO false 1 (e.g 2) x18 x15.2) fun x19 => ((D.tup []), x19)) fun x19 =>
(@Mode.gk M ((Env × St) ⊕ (Res × St)) Av5 x19.2 (some (Sum.inl ((Env.mk (sp [(0, (D.shut (List.length Av5) (e.g 0))), (0, (D.shut (List.length Av5) (e.g 1))), (0, (D.shut (List.length Av5) (e.g 2))), (0, (D.shut (List.length Av5) (e.g 3)))] 48) (List.map (fun (x20 : (D × (List D))) => ((D.shut (List.length Av5) x20.1), (D.shutL (List.length Av5) x20.2))) (e).df)), (List.take (List.length Av5) x19.2))))))))))))))) (fun x11 => (Option.map (Sum.inr ) (bn (leavesD dcall (fun (x12 : St) => (some (D.tup []))) (e).df (some x11) x10.2) fun x12 =>
(leaveM M RetK.can A x12.1 x12.2)))))))))))))) (fun x3 => (Option.map (Sum.inr ) (bn (leavesD dcall (fun (x4 : St) => (some (D.tup []))) (e).df (some x3) x2.2) fun x4 =>
(leaveM M RetK.can A x4.1 x4.2))))))))
noncomputable def f87 (M : Mode) (call : CallT) (dcall : DcallT) (a0 : D) (a1 : D) (a2 : D) (a3 : D) (A : St) : (Option (Res × St)) :=
(bn (mp (loadO false 1 a1 A) fun x0 => (x0, A)) fun x0 =>
(bn (lenStrO x0.1) fun x1 =>
(bn (binO .eql 3 true x1 (n64 0)) fun x2 =>
(bn (D.bool? x2) fun x3 =>
(ifb x3 (@Mode.it M (Res × St) (f87_s0 M call dcall A) (Env.mk (sp [(0, a0), (1, a2)] 49) []) x0.2)
(@Mode.it M (Res × St) (f87_s1 M call dcall A) (Env.mk (sp [(0, a0), (0, a1), (0, a2), (0, a3)] 48) []) x0.2))))))
theorem b87 (M : Mode) (call : CallT) (dcall : DcallT) (a0 a1 a2 a3 : D) (A : St) : bodyN M Tryd.prog rxHint kk call dcall 87 [a0, a1, a2, a3] A = f87 M call dcall a0.canon a1.canon a2.canon a3.canon A := by
  kernel_rfl
noncomputable def f88 (M : Mode) (call : CallT) (dcall : DcallT) (a0 : D) (A : St) : (Option (Res × St)) :=
(bn (binO .neq 3 true a0 (D.str [])) fun x0 =>
(bn (guardB true x0) fun x1 =>
(bn (ifb x1 (some a0)
(some (D.tup []))) fun x2 =>
(bn (guardB true x0) fun x3 =>
(bn (ifb x3 (indexStrO x2 (n64 0))
(some (D.tup []))) fun x4 =>
(bn (guardB true x0) fun x5 =>
(bn (ifb x5 (binO .lss 3 true x4 (D.int IntKind.u8 (128 : Int)))
(some (D.tup []))) fun x6 =>
(bn (mp (D.bool? x0) fun x7 => (ifb x7 x6
(D.bool false))) fun x7 =>
(bn (D.bool? x7) fun x8 =>
(ifb x8 (bn (indexStrO a0 (n64 0)) fun x9 =>
(bn (convO (ConvK.int IntKind.i32) x9) fun x10 =>
(leaveM M RetK.can A (Res.ret (D.tup [x10, (n64 1)])) A)))
(bn (call 100 [a0] A) fun x9 =>
(Res.elim x9.1 (fun x10 => (bn (extractD x10 0) fun x11 =>
(bn (extractD x10 1) fun x12 =>
(leaveM M RetK.can A (Res.ret (D.tup [x11, x12])) x9.2)))) (fun x10 => (leaveM M RetK.can A (Res.pan x10) x9.2))))))))))))))
theorem b88 (M : Mode) (call : CallT) (dcall : DcallT) (a0 : D) (A : St) : bodyN M Tryd.prog rxHint kk call dcall 88 [a0] A = f88 M call dcall a0.canon A := by
  kernel_rfl
noncomputable def f89 (M : Mode) (call : CallT) (dcall : DcallT) (a0 : D) (a1 : D) (A : St) : (Option (Res × St)) :=
(bn (call 101 [a0, a1] A) fun x0 =>
(Res.elim x0.1 (fun x1 => (leaveM M RetK.can A (Res.ret x1) x0.2)) (fun x1 => (leaveM M RetK.can A (Res.pan x1) x0.2))))
theorem b89 (M : Mode) (call : CallT) (dcall : DcallT) (a0 a1 : D) (A : St) : bodyN M Tryd.prog rxHint kk call dcall 89 [a0, a1] A = f89 M call dcall a0.canon a1.canon A := by
  kernel_rfl
noncomputable def f90 (M : Mode) (call : CallT) (dcall : DcallT) (a0 : D) (A : St) : (Option (Res × St)) :=
(bn (binO .eql 3 true a0 (D.str [(61 : UInt8), (61 : UInt8)])) fun x0 =>
(bn (guardB false x0) fun x1 =>
(bn (ifb x1 (some a0)
(some (D.tup []))) fun x2 =>
(bn (guardB false x0) fun x3 =>
(bn (ifb x3 (binO .eql 3 true x2 (D.str [(60 : UInt8), (61 : UInt8)]))
(some (D.tup []))) fun x4 =>
(bn (mp (D.bool? x0) fun x5 => (ifb x5 (D.bool true)
 x4)) fun x5 =>
(bn (guardB false x5) fun x6 =>
(bn (ifb x6 (some a0)
(some (D.tup []))) fun x7 =>
(bn (guardB false x5) fun x8 =>
(bn (ifb x8 (binO .eql 3 true x7 (D.str [(62 : UInt8), (61 : UInt8)]))
(some (D.tup []))) fun x9 =>
(bn (mp (D.bool? x5) fun x10 => (ifb x10 (D.bool true)
 x9)) fun x10 =>
(bn (guardB false x10) fun x11 =>
(bn (ifb x11 (some a0)
(some (D.tup []))) fun x12 =>
(bn (guardB false x10) fun x13 =>
(bn (ifb x13 (binO .eql 3 true x12 (D.str [(45 : UInt8), (62 : UInt8)]))
(some (D.tup []))) fun x14 =>
(bn (mp (D.bool? x10) fun x15 => (ifb x15 (D.bool true)
 x14)) fun x15 =>
(leaveM M RetK.can A (Res.ret x15) A)))))))))))))))))
theorem b90 (M : Mode) (call : CallT) (dcall : DcallT) (a0 : D) (A : St) : bodyN M Tryd.prog rxHint kk call dcall 90 [a0] A = f90 M call dcall a0.canon A := by
  kernel_rfl
noncomputable def f91 (M : Mode) (call : CallT) (dcall : DcallT) (a0 : D) (a1 : D) (A : St) : (Option (Res × St)) :=
(bn (call 102 [a0, a1] A) fun x0 =>
(Res.elim x0.1 (fun x1 => (leaveM M RetK.can A (Res.ret x1) x0.2)) (fun x1 => (leaveM M RetK.can A (Res.pan x1) x0.2))))
theorem b91 (M : Mode) (call : CallT) (dcall : DcallT) (a0 a1 : D) (A : St) : bodyN M Tryd.prog rxHint kk call dcall 91 [a0, a1] A = f91 M call dcall a0.canon a1.canon A := by
  kernel_rfl
noncomputable def f92 (M : Mode) (call : CallT) (dcall : DcallT) (a0 : D) (a1 : D) (A : St) : (Option (Res × St)) :=
(bn (call 103 [a0, a1] A) fun x0 =>
(Res.elim x0.1 (fun x1 => (leaveM M RetK.can A (Res.ret x1) x0.2)) (fun x1 => (leaveM M RetK.can A (Res.pan x1) x0.2))))
theorem b92 (M : Mode) (call : CallT) (dcall : DcallT) (a0 a1 : D) (A : St) : bodyN M Tryd.prog rxHint kk call dcall 92 [a0, a1] A = f92 M call dcall a0.canon a1.canon A := by
  kernel_rfl
noncomputable def f93 (M : Mode) (call : CallT) (dcall : DcallT) (a0 : D) (A : St) : (Option (Res × St)) :=
(bn (binO .eql 3 true a0 (D.str [(61 : UInt8), (61 : UInt8)])) fun x0 =>
(bn (guardB false x0) fun x1 =>
(bn (ifb x1 (some a0)
(some (D.tup []))) fun x2 =>
(bn (guardB false x0) fun x3 =>
(bn (ifb x3 (binO .eql 3 true x2 (D.str [(60 : UInt8), (61 : UInt8)]))
(some (D.tup []))) fun x4 =>
(bn (mp (D.bool? x0) fun x5 => (ifb x5 (D.bool true)
 x4)) fun x5 =>
(bn (guardB false x5) fun x6 =>
(bn (ifb x6 (some a0)
(some (D.tup []))) fun x7 =>
(bn (guardB false x5) fun x8 =>
(bn (ifb x8 (binO .eql 3 true x7 (D.str [(62 : UInt8), (61 : UInt8)]))
(some (D.tup []))) fun x9 =>
(bn (mp (D.bool? x5) fun x10 => (ifb x10 (D.bool true)
 x9)) fun x10 =>
(bn (guardB false x10) fun x11 =>
(bn (ifb x11 (some a0)
(some (D.tup []))) fun x12 =>
(bn (guardB false x10) fun x13 =>
(bn (ifb x13 (binO .eql 3 true x12 (D.str [(45 : UInt8), (62 : UInt8)]))
(some (D.tup []))) fun x14 =>
(bn (mp (D.bool? x10) fun x15 => (ifb x15 (D.bool true)
 x14)) fun x15 =>
(leaveM M RetK.can A (Res.ret x15) A)))))))))))))))))
theorem b93 (M : Mode) (call : CallT) (dcall : DcallT) (a0 : D) (A : St) : bodyN M Tryd.prog rxHint kk call dcall 93 [a0] A = f93 M call dcall a0.canon A := by
  kernel_rfl
noncomputable def f94_s0 (M : Mode) (call : CallT) (dcall : DcallT) (A : St) (e : Env) (Av5 : St) : (Option ((Env × St) ⊕ (Res × St))) :=
(bn (binO .lss 3 true (e.g 3) (n64 12)) fun x0 =>
(bn (D.bool? x0) fun x1 =>
(ifb x1 (bn (indexStrO (D.str [(40 : UInt8), (41 : UInt8), (44 : UInt8), (124 : UInt8), (42 : UInt8), (43 : UInt8), (63 : UInt8), (46 : UInt8), (36 : UInt8), (61 : UInt8), (60 : UInt8), (62 : UInt8)]) (e.g 3)) fun x2 =>
(bn (binO .eql 3 false x2 (e.g 0)) fun x3 =>
(bn (D.bool? x3) fun x4 =>
(ifb x4 (Option.map (Sum.inr ) (bn (leavesD dcall (fun (x5 : St) => (some (D.bool true))) (e).df none Av5) fun x5 =>
(leaveM M RetK.can A x5.1 x5.2)))
(bn (binO .add 3 true (e.g 3) (n64 1)) fun x5 =>
(@Mode.gk M ((Env × St) ⊕ (Res × St)) Av5 Av5 (some (Sum.inl ((Env.mk (sp [(0, (D.shut (List.length Av5) (e.g 0))), (2, (D.shut (List.length Av5) x5))] 8) (List.map (fun (x6 : (D × (List D))) => ((D.shut (List.length Av5) x6.1), (D.shutL (List.length Av5) x6.2))) (e).df)), (List.take (List.length Av5) Av5))))))))))
(Option.map (Sum.inr ) (bn (leavesD dcall (fun (x2 : St) => (some (D.bool false))) (e).df none Av5) fun x2 =>
(leaveM M RetK.can A x2.1 x2.2))))))
noncomputable def f94 (M : Mode) (call : CallT) (dcall : DcallT) (a0 : D) (A : St) : (Option (Res × St)) :=
(@Mode.it M (Res × St) (f94_s0 M call dcall A) (Env.mk (sp [(0, a0), (2, (n64 0))] 8) []) A)
theorem b94 (M : Mode) (call : CallT) (dcall : DcallT) (a0 : D) (A : St) : bodyN M Tryd.prog rxHint kk call dcall 94 [a0] A = f94 M call dcall a0.canon A := by
  kernel_rfl
noncomputable def f95 (M : Mode) (call : CallT) (dcall : DcallT) (a0 : D) (A : St) : (Option (Res × St)) :=
(bn (binO .geq 3 true a0 (D.int IntKind.u8 (97 : Int))) fun x0 =>
(bn (guardB true x0) fun x1 =>
(bn (ifb x1 (some a0)
(some (D.tup []))) fun x2 =>
(bn (guardB true x0) fun x3 =>
(bn (ifb x3 (binO .leq 3 true x2 (D.int IntKind.u8 (122 : Int)))
(some (D.tup []))) fun x4 =>
(bn (mp (D.bool? x0) fun x5 => (ifb x5 x4
(D.bool false))) fun x5 =>
(bn (guardB false x5) fun x6 =>
(bn (ifb x6 (some a0)
(some (D.tup []))) fun x7 =>
(bn (guardB false x5) fun x8 =>
(bn (ifb x8 (binO .geq 3 true x7 (D.int IntKind.u8 (65 : Int)))
(some (D.tup []))) fun x9 =>
(bn (guardB false x5) fun x10 =>
(bn (ifb x10 (some x9)
(some (D.tup []))) fun x11 =>
(bn (guardB true x11) fun x12 =>
(bn (ifb x12 (some a0)
(some (D.tup []))) fun x13 =>
(bn (guardB true x11) fun x14 =>
(bn (ifb x14 (binO .leq 3 true x13 (D.int IntKind.u8 (90 : Int)))
(some (D.tup []))) fun x15 =>
(bn (guardB false x5) fun x16 =>
(bn (ifb x16 (mp (D.bool? x11) fun x17 => (ifb x17 x15
(D.bool false)))
(some (D.tup []))) fun x17 =>
(bn (mp (D.bool? x5) fun x18 => (ifb x18 (D.bool true)
 x17)) fun x18 =>
(bn (guardB false x18) fun x19 =>
(bn (ifb x19 (some a0)
(some (D.tup []))) fun x20 =>
(bn (guardB false x18) fun x21 =>
(bn (ifb x21 (call 99 [x20] A)
(some ((Res.ret (D.tup [])), A))) fun x22 =>
(Res.elim x22.1 (fun x23 => (bn (mp (D.bool? x18) fun x24 => (ifb x24 (D.bool true)
 x23)) fun x24 =>
(bn (guardB false x24) fun x25 =>
(bn (ifb x25 (some a0)
(some (D.tup []))) fun x26 =>
(bn (guardB false x24) fun x27 =>
(bn (ifb x27 (binO .eql 3 true x26 (D.int IntKind.u8 (95 : Int)))
(some (D.tup []))) fun x28 =>
(bn (mp (D.bool? x24) fun x29 => (ifb x29 (D.bool true)
 x28)) fun x29 =>
(bn (guardB false x29) fun x30 =>
(bn (ifb x30 (some a0)
(some (D.tup []))) fun x31 =>
(bn (guardB false x29) fun x32 =>
(bn (ifb x32 (binO .eql 3 true x31 (D.int IntKind.u8 (45 : Int)))
(some (D.tup []))) fun x33 =>
(bn (mp (D.bool? x29) fun x34 => (ifb x34 (D.bool true)
 x33)) fun x34 =>
(leaveM M RetK.can A (Res.ret x34) x22.2))))))))))))) (fun x23 => (leaveM M RetK.can A (Res.pan x23) x22.2))))))))))))))))))))))))))
theorem b95 (M : Mode) (call : CallT) (dcall : DcallT) (a0 : D) (A : St) : bodyN M Tryd.prog rxHint kk call dcall 95 [a0] A = f95 M call dcall a0.canon A := by
  kernel_rfl
theorem r95 (a0 : D) (A : St) : Run Tryd.prog rxA 95 [a0] A = f95 mL (Run Tryd.prog rxA) (Dcall Tryd.prog rxA) a0.canon A := (Run_eqN Tryd.prog rxA kk rfl rfl _ _).trans (b95 mL (Run Tryd.prog rxA) (Dcall Tryd.prog rxA) a0 A)
noncomputable def f96_s0 (M : Mode) (call : CallT) (dcall : DcallT) (A : St) (e : Env) (Av5 : St) : (Option ((Env × St) ⊕ (Res × St))) :=
(bn (binO .lss 3 false (e.g 8) (e.g 7)) fun x0 =>
(bn (D.bool? x0) fun x1 =>
(ifb x1 (bn (indexAddrO 1 false (e.g 0) (e.g 8)) fun x2 =>
(bn (mp (loadO false 1 x2 Av5) fun x3 => (x3, Av5)) fun x3 =>
(bn (binO .eql 3 false (e.g 1) x3.1) fun x4 =>
(bn (D.bool? x4) fun x5 =>
(ifb x5 (Option.map (Sum.inr ) (bn (leavesD dcall (fun (x6 : St) => (some (e.g 8))) (e).df none x3.2) fun x6 =>
(leaveM M RetK.can A x6.1 x6.2)))
(bn (binO .add 3 true (e.g 8) (n64 1)) fun x6 =>
(@Mode.gk M ((Env × St) ⊕ (Res × St)) Av5 x3.2 (some (Sum.inl ((Env.mk (sp [(0, (D.shut (List.length Av5) (e.g 0))), (0, (D.shut (List.length Av5) (e.g 1))), (5, (D.shut (List.length Av5) (e.g 7))), (0, (D.shut (List.length Av5) x6))] 10) (List.map (fun (x7 : (D × (List D))) => ((D.shut (List.length Av5) x7.1), (D.shutL (List.length Av5) x7.2))) (e).df)), (List.take (List.length Av5) x3.2)))))))))))
(Option.map (Sum.inr ) (bn (leavesD dcall (fun (x2 : St) => (some (n64 (-1)))) (e).df none Av5) fun x2 =>
(leaveM M RetK.can A x2.1 x2.2))))))
noncomputable def f96 (M : Mode) (call : CallT) (dcall : DcallT) (a0 : D) (a1 : D) (A : St) : (Option (Res × St)) :=
(bn (lenSlO a0) fun x0 =>
(@Mode.it M (Res × St) (f96_s0 M call dcall A) (Env.mk (sp [(0, a0), (0, a1), (5, x0), (0, (n64 0))] 10) []) A))
theorem b96 (M : Mode) (call : CallT) (dcall : DcallT) (a0 a1 : D) (A : St) : bodyN M Tryd.prog rxHint kk call dcall 96 [a0, a1] A = f96 M call dcall a0.canon a1.canon A := by
  kernel_rfl
theorem r96 (a0 a1 : D) (A : St) : Run Tryd.prog rxA 96 [a0, a1] A = f96 mL (Run Tryd.prog rxA) (Dcall Tryd.prog rxA) a0.canon a1.canon A := (Run_eqN Tryd.prog rxA kk rfl rfl _ _).trans (b96 mL (Run Tryd.prog rxA) (Dcall Tryd.prog rxA) a0 a1 A)
noncomputable def f97 (M : Mode) (call : CallT) (dcall : DcallT) (a0 : D) (A : St) : (Option (Res × St)) :=
(bn (allocO [(n64 0), (D.str []), (D.sl Own.full 0 [])] A) fun x0 =>
(bn (nilCheckD a0) fun x1 =>
(bn (fieldAddrO 0 x1) fun x2 =>
(bn (call 77 [x2] x0.2) fun x3 =>
(Res.elim x3.1 (fun x4 => (bn (binO .eql 3 true x4 (D.str [(40 : UInt8)])) fun x5 =>
(bn (guardB true x5) fun x6 =>
(bn (ifb x6 (some a0)
(some (D.tup []))) fun x7 =>
(bn (guardB true x5) fun x8 =>
(bn (ifb x8 (nilCheckD x7)
(some (D.tup []))) fun x9 =>
(bn (guardB true x5) fun x10 =>
(bn (ifb x10 (fieldAddrO 2 x9)
(some (D.tup []))) fun x11 =>
(bn (guardB true x5) fun x12 =>
(bn (ifb x12 (mp (loadO false 1 x11 x3.2) fun x13 => (x13, x3.2))
(some ((D.tup []), x3.2))) fun x13 =>
(bn (guardB true x5) fun x14 =>
(bn (ifb x14 (binO .geq 3 true x13.1 (n64 50))
(some (D.tup []))) fun x15 =>
(bn (mp (D.bool? x5) fun x16 => (ifb x16 x15
(D.bool false))) fun x16 =>
(bn (D.bool? x16) fun x17 =>
(bn (ifb x17 (bn (nilCheckD a0) fun x18 =>
(bn (fieldAddrO 0 x18) fun x19 =>
(bn (call 32 [x19, (n64 91)] x13.2) fun x20 =>
(Res.elim x20.1 (fun x21 => (some (Sum.inl ((Env.mk (sp [(0, a0), (1, x0.1), (22, x21)] 65) []), x20.2)))) (fun x21 => (Option.map (Sum.inr ) (leaveM M RetK.can A (Res.pan x21) x20.2)))))))
(some (Sum.inl ((Env.mk (sp [(0, a0), (1, x0.1), (22, (D.tup []))] 65) []), x13.2)))) fun x18 =>
(Sum.elim (fun (x19 : (Env × St)) => (bn (nilCheckD (x19.1.g 0)) fun x20 =>
(bn (fieldAddrO 0 x20) fun x21 =>
(bn (mp (Option.map (D.sl Own.full 1) (sliceParts 1 false 0 [(0, (D.str [(40 : UInt8)])), (1, (D.str [(36 : UInt8)])), (2, (D.str [(46 : UInt8)]))])) fun x22 => (x22, x19.2)) fun x22 =>
(bn (call 53 [x21, x22.1] x22.2) fun x23 =>
(Res.elim x23.1 (fun x24 => (bn (extractD x24 0) fun x25 =>
(bn (extractD x24 1) fun x26 =>
(bn (unD UnOp.not x26) fun x27 =>
(bn (D.bool? x27) fun x28 =>
(ifb x28 (bn (call 104 [(x19.1.g 0)] x23.2) fun x29 =>
(Res.elim x29.1 (fun x30 => (bn (Option.map D.agg (Option.bind (layCells false 1 0 [(n64 0), (D.str []), (D.sl Own.full 0 [])] (n64 1)) (fun (x31 : (List D)) => (Option.bind (layCells false 1 1 x31 x30) (fun (x32 : (List D)) => (some x32)))))) fun x31 =>
(bn (mp (storeO true 3 (x19.1.g 2) x31 x29.2) fun x32 => ((D.tup []), x32)) fun x32 =>
(bn (leavesD dcall (fun (x33 : St) => (Option.map packD (Option.bind (loadO true 3 (x19.1.g 2) x33) (fun x34 => (some [x34]))))) (x19.1).df none x32.2) fun x33 =>
(leaveM M RetK.can A x33.1 x33.2))))) (fun x30 => (bn (leavesD dcall (fun (x31 : St) => (Option.map packD (Option.bind (loadO true 3 (x19.1.g 2) x31) (fun x32 => (some [x32]))))) (x19.1).df (some x30) x29.2) fun x31 =>
(leaveM M RetK.can A x31.1 x31.2)))))
(bn (binO .eql 3 true x25 (D.str [(46 : UInt8)])) fun x29 =>
(bn (D.bool? x29) fun x30 =>
(ifb x30 (bn (mp (storeO true 3 (x19.1.g 2) (D.agg [(n64 3), (D.str []), (D.sl Own.full 0 [])]) x23.2) fun x31 => ((D.tup []), x31)) fun x31 =>
(bn (leavesD dcall (fun (x32 : St) => (Option.map packD (Option.bind (loadO true 3 (x19.1.g 2) x32) (fun x33 => (some [x33]))))) (x19.1).df none x31.2) fun x32 =>
(leaveM M RetK.can A x32.1 x32.2)))
(bn (binO .eql 3 true x25 (D.str [(36 : UInt8)])) fun x31 =>
(bn (D.bool? x31) fun x32 =>
(ifb x32 (bn (call 104 [(x19.1.g 0)] x23.2) fun x33 =>
(Res.elim x33.1 (fun x34 => (bn (Option.map D.agg (Option.bind (layCells false 1 0 [(n64 0), (D.str []), (D.sl Own.full 0 [])] (n64 2)) (fun (x35 : (List D)) => (Option.bind (layCells false 1 1 x35 x34) (fun (x36 : (List D)) => (some x36)))))) fun x35 =>
(bn (mp (storeO true 3 (x19.1.g 2) x35 x33.2) fun x36 => ((D.tup []), x36)) fun x36 =>
(bn (leavesD dcall (fun (x37 : St) => (Option.map packD (Option.bind (loadO true 3 (x19.1.g 2) x37) (fun x38 => (some [x38]))))) (x19.1).df none x36.2) fun x37 =>
(leaveM M RetK.can A x37.1 x37.2))))) (fun x34 => (bn (leavesD dcall (fun (x35 : St) => (Option.map packD (Option.bind (loadO true 3 (x19.1.g 2) x35) (fun x36 => (some [x36]))))) (x19.1).df (some x34) x33.2) fun x35 =>
(leaveM M RetK.can A x35.1 x35.2)))))
(bn (nilCheckD (x19.1.g 0)) fun x33 =>
(bn (fieldAddrO 0 x33) fun x34 =>
(bn (mp (Option.map (D.sl Own.full 1) (sliceParts 1 false 0 [(0, (D.str [(41 : UInt8)]))])) fun x35 => (x35, x23.2)) fun x35 =>
(bn (call 53 [x34, x35.1] x35.2) fun x36 =>
(Res.elim x36.1 (fun x37 => (bn (extractD x37 0) fun x38 =>
(bn (extractD x37 1) fun x39 =>
(bn (D.bool? x39) fun x40 =>
(ifb x40 (bn (mp (storeO true 3 (x19.1.g 2) (D.agg [(n64 4), (D.str []), (D.sl Own.full 0 [])]) x36.2) fun x41 => ((D.tup []), x41)) fun x41 =>
(bn (leavesD dcall (fun (x42 : St) => (Option.map packD (Option.bind (loadO true 3 (x19.1.g 2) x42) (fun x43 => (some [x43]))))) (x19.1).df none x41.2) fun x42 =>
(leaveM M RetK.can A x42.1 x42.2)))
(bn (nilCheckD (x19.1.g 0)) fun x41 =>
(bn (fieldAddrO 2 x41) fun x42 =>
(bn (mp (loadO false 1 x42 x36.2) fun x43 => (x43, x36.2)) fun x43 =>
(bn (binO .add 3 true x43.1 (n64 1)) fun x44 =>
(bn (nilCheckD (x19.1.g 0)) fun x45 =>
(bn (fieldAddrO 2 x45) fun x46 =>
(bn (mp (storeO false 1 x46 x44 x43.2) fun x47 => ((D.tup []), x47)) fun x47 =>
(bn (call 31 [(x19.1.g 0)] x47.2) fun x48 =>
(Res.elim x48.1 (fun x49 => (bn (allocO [(n64 0), (D.str []), (D.sl Own.full 0 [])] x48.2) fun x50 =>
(bn (mp (storeO true 3 x50.1 x49 x50.2) fun x51 => ((D.tup []), x51)) fun x51 =>
(bn (nilCheckD (x19.1.g 0)) fun x52 =>
(bn (fieldAddrO 2 x52) fun x53 =>
(bn (mp (loadO false 1 x53 x51.2) fun x54 => (x54, x51.2)) fun x54 =>
(bn (binO .sub 3 true x54.1 (n64 1)) fun x55 =>
(bn (nilCheckD (x19.1.g 0)) fun x56 =>
(bn (fieldAddrO 2 x56) fun x57 =>
(bn (mp (storeO false 1 x57 x55 x54.2) fun x58 => ((D.tup []), x58)) fun x58 =>
(bn (nilCheckD (x19.1.g 0)) fun x59 =>
(bn (fieldAddrO 0 x59) fun x60 =>
(bn (mp (Option.map (D.sl Own.full 1) (sliceParts 1 false 0 [(0, (D.str [(41 : UInt8)]))])) fun x61 => (x61, x58.2)) fun x61 =>
(bn (call 53 [x60, x61.1] x61.2) fun x62 =>
(Res.elim x62.1 (fun x63 => (bn (extractD x63 0) fun x64 =>
(bn (extractD x63 1) fun x65 =>
(bn (unD UnOp.not x65) fun x66 =>
(bn (D.bool? x66) fun x67 =>
(bn (ifb x67 (bn (nilCheckD (x19.1.g 0)) fun x68 =>
(bn (fieldAddrO 0 x68) fun x69 =>
(bn (call 32 [x69, (n64 90)] x62.2) fun x70 =>
(Res.elim x70.1 (fun x71 => (some (Sum.inl ((Env.mk (sp [(2, (x19.1.g 2)), (4, x50.1), (17, (x19.1.g 25))] 65) (x19.1).df), x70.2)))) (fun x71 => (Option.map (Sum.inr ) (bn (leavesD dcall (fun (x72 : St) => (Option.map packD (Option.bind (loadO true 3 (x19.1.g 2) x72) (fun x73 => (some [x73]))))) (x19.1).df (some x71) x70.2) fun x72 =>
(leaveM M RetK.can A x72.1 x72.2))))))))
(some (Sum.inl ((Env.mk (sp [(2, (x19.1.g 2)), (4, x50.1), (17, (x19.1.g 25))] 65) (x19.1).df), x62.2)))) fun x68 =>
(Sum.elim (fun (x69 : (Env × St)) => (bn (mp (loadO true 3 (x69.1.g 7) x69.2) fun x70 => (x70, x69.2)) fun x70 =>
(bn (mp (storeO true 3 (x69.1.g 2) x70.1 x70.2) fun x71 => ((D.tup []), x71)) fun x71 =>
(bn (leavesD dcall (fun (x72 : St) => (Option.map packD (Option.bind (loadO true 3 (x69.1.g 2) x72) (fun x73 => (some [x73]))))) (x69.1).df none x71.2) fun x72 =>
(leaveM M RetK.can A x72.1 x72.2))))) (fun (x69 : (Res × St)) => (some x69)) x68))))))) (fun x63 => (bn (leavesD dcall (fun (x64 : St) => (Option.map packD (Option.bind (loadO true 3 (x19.1.g 2) x64) (fun x65 => (some [x65]))))) (x19.1).df (some x63) x62.2) fun x64 =>
(leaveM M RetK.can A x64.1 x64.2)))))))))))))))))) (fun x49 => (bn (leavesD dcall (fun (x50 : St) => (Option.map packD (Option.bind (loadO true 3 (x19.1.g 2) x50) (fun x51 => (some [x51]))))) (x19.1).df (some x49) x48.2) fun x50 =>
(leaveM M RetK.can A x50.1 x50.2))))))))))))))))) (fun x37 => (bn (leavesD dcall (fun (x38 : St) => (Option.map packD (Option.bind (loadO true 3 (x19.1.g 2) x38) (fun x39 => (some [x39]))))) (x19.1).df (some x37) x36.2) fun x38 =>
(leaveM M RetK.can A x38.1 x38.2)))))))))))))))))))) (fun x24 => (bn (leavesD dcall (fun (x25 : St) => (Option.map packD (Option.bind (loadO true 3 (x19.1.g 2) x25) (fun x26 => (some [x26]))))) (x19.1).df (some x24) x23.2) fun x25 =>
(leaveM M RetK.can A x25.1 x25.2))))))))) (fun (x19 : (Res × St)) => (some x19)) x18)))))))))))))))) (fun x4 => (leaveM M RetK.can A (Res.pan x4) x3.2)))))))
theorem b97 (M : Mode) (call : CallT) (dcall : DcallT) (a0 : D) (A : St) : bodyN M Tryd.prog rxHint kk call dcall 97 [a0] A = f97 M call dcall a0.canon A := by
  kernel_rfl
noncomputable def f98 (M : Mode) (call : CallT) (dcall : DcallT) (a0 : D) (A : St) : (Option (Res × St)) :=
(bn (allocO [(n64 0), (D.str []), (D.sl Own.full 0 [])] A) fun x0 =>
(bn (call 56 [a0] x0.2) fun x1 =>
(Res.elim x1.1 (fun x2 => (bn (binO .eql 3 true x2 (D.str [(46 : UInt8)])) fun x3 =>
(bn (D.bool? x3) fun x4 =>
(ifb x4 (bn (nilCheckD a0) fun x5 =>
(bn (fieldAddrO 1 x5) fun x6 =>
(bn (mp (loadO false 1 x6 x1.2) fun x7 => (x7, x1.2)) fun x7 =>
(bn (binO .add 3 true x7.1 (n64 1)) fun x8 =>
(bn (nilCheckD a0) fun x9 =>
(bn (fieldAddrO 1 x9) fun x10 =>
(bn (mp (storeO false 1 x10 x8 x7.2) fun x11 => ((D.tup []), x11)) fun x11 =>
(bn (mp (storeO true 3 x0.1 (D.agg [(n64 3), (D.str []), (D.sl Own.full 0 [])]) x11.2) fun x12 => ((D.tup []), x12)) fun x12 =>
(bn (mp (Option.map packD (Option.bind (loadO true 3 x0.1 x12.2) (fun x13 => (some [x13])))) fun x13 => ((Res.ret x13), x12.2)) fun x13 =>
(leaveM M RetK.can A x13.1 x13.2))))))))))
(bn (binO .eql 3 true x2 (D.str [(36 : UInt8)])) fun x5 =>
(bn (D.bool? x5) fun x6 =>
(ifb x6 (bn (nilCheckD a0) fun x7 =>
(bn (fieldAddrO 1 x7) fun x8 =>
(bn (mp (loadO false 1 x8 x1.2) fun x9 => (x9, x1.2)) fun x9 =>
(bn (binO .add 3 true x9.1 (n64 1)) fun x10 =>
(bn (nilCheckD a0) fun x11 =>
(bn (fieldAddrO 1 x11) fun x12 =>
(bn (mp (storeO false 1 x12 x10 x9.2) fun x13 => ((D.tup []), x13)) fun x13 =>
(bn (call 56 [a0] x13.2) fun x14 =>
(Res.elim x14.1 (fun x15 => (bn (call 80 [x15] x14.2) fun x16 =>
(Res.elim x16.1 (fun x17 => (bn (unD UnOp.not x17) fun x18 =>
(bn (D.bool? x18) fun x19 =>
(ifb x19 (bn (call 34 [a0, (n64 90)] x16.2) fun x20 =>
(Res.elim x20.1 (fun x21 => (bn (mp (storeO true 3 x0.1 x21 x20.2) fun x22 => ((D.tup []), x22)) fun x22 =>
(bn (mp (Option.map packD (Option.bind (loadO true 3 x0.1 x22.2) (fun x23 => (some [x23])))) fun x23 => ((Res.ret x23), x22.2)) fun x23 =>
(leaveM M RetK.can A x23.1 x23.2)))) (fun x21 => (leaveM M RetK.can A (Res.pan x21) x20.2))))
(bn (nilCheckD a0) fun x20 =>
(bn (fieldAddrO 1 x20) fun x21 =>
(bn (mp (loadO false 1 x21 x16.2) fun x22 => (x22, x16.2)) fun x22 =>
(bn (binO .add 3 true x22.1 (n64 1)) fun x23 =>
(bn (nilCheckD a0) fun x24 =>
(bn (fieldAddrO 1 x24) fun x25 =>
(bn (mp (storeO false 1 x25 x23 x22.2) fun x26 => ((D.tup []), x26)) fun x26 =>
(bn (nilCheckD a0) fun x27 =>
(bn (fieldAddrO 0 x27) fun x28 =>
(bn (mp (mp (loadO false 1 x28 x26.2) fun x29 => (x29, x26.2)) fun x29 => x29.1) fun x29 =>
(bn (nilCheckD a0) fun x30 =>
(bn (fieldAddrO 1 x30) fun x31 =>
(bn (mp (mp (loadO false 1 x31 x26.2) fun x32 => (x32, x26.2)) fun x32 => x32.1) fun x32 =>
(bn (binO .sub 3 true x32 (n64 1)) fun x33 =>
(bn (indexAddrO 3 true x29 x33) fun x34 =>
(bn (fieldAddrO 0 x34) fun x35 =>
(bn (mp (mp (loadO false 1 x35 x26.2) fun x36 => (x36, x26.2)) fun x36 => x36.1) fun x36 =>
(bn (Option.map D.agg (Option.bind (layCells false 1 0 [(n64 0), (D.str []), (D.sl Own.full 0 [])] (n64 2)) (fun (x37 : (List D)) => (Option.bind (layCells false 1 1 x37 x36) (fun (x38 : (List D)) => (some x38)))))) fun x37 =>
(bn (mp (storeO true 3 x0.1 x37 x26.2) fun x38 => ((D.tup []), x38)) fun x38 =>
(@Mode.gs M (Res × St) True true (bn (mp (Option.map packD (Option.bind (loadO true 3 x0.1 x38.2) (fun x39 => (some [x39])))) fun x39 => ((Res.ret x39), x38.2)) fun x39 =>
(leaveM M RetK.can A x39.1 x39.2)))))))))))))))))))))))))) (fun x17 => (leaveM M RetK.can A (Res.pan x17) x16.2))))) (fun x15 => (leaveM M RetK.can A (Res.pan x15) x14.2)))))))))))
(bn (binO .eql 3 true x2 (D.str [(40 : UInt8)])) fun x7 =>
(bn (D.bool? x7) fun x8 =>
(ifb x8 (bn (nilCheckD a0) fun x9 =>
(bn (fieldAddrO 2 x9) fun x10 =>
(bn (mp (loadO false 1 x10 x1.2) fun x11 => (x11, x1.2)) fun x11 =>
(bn (binO .geq 3 true x11.1 (n64 50)) fun x12 =>
(bn (D.bool? x12) fun x13 =>
(ifb x13 (bn (call 34 [a0, (n64 91)] x11.2) fun x14 =>
(Res.elim x14.1 (fun x15 => (bn (mp (storeO true 3 x0.1 x15 x14.2) fun x16 => ((D.tup []), x16)) fun x16 =>
(bn (mp (Option.map packD (Option.bind (loadO true 3 x0.1 x16.2) (fun x17 => (some [x17])))) fun x17 => ((Res.ret x17), x16.2)) fun x17 =>
(leaveM M RetK.can A x17.1 x17.2)))) (fun x15 => (leaveM M RetK.can A (Res.pan x15) x14.2))))
(bn (nilCheckD a0) fun x14 =>
(bn (fieldAddrO 1 x14) fun x15 =>
(bn (mp (loadO false 1 x15 x11.2) fun x16 => (x16, x11.2)) fun x16 =>
(bn (binO .add 3 true x16.1 (n64 1)) fun x17 =>
(bn (nilCheckD a0) fun x18 =>
(bn (fieldAddrO 1 x18) fun x19 =>
(bn (mp (storeO false 1 x19 x17 x16.2) fun x20 => ((D.tup []), x20)) fun x20 =>
(bn (call 56 [a0] x20.2) fun x21 =>
(Res.elim x21.1 (fun x22 => (bn (binO .eql 3 true x22 (D.str [(41 : UInt8)])) fun x23 =>
(bn (D.bool? x23) fun x24 =>
(ifb x24 (bn (nilCheckD a0) fun x25 =>
(bn (fieldAddrO 1 x25) fun x26 =>
(bn (mp (loadO false 1 x26 x21.2) fun x27 => (x27, x21.2)) fun x27 =>
(bn (binO .add 3 true x27.1 (n64 1)) fun x28 =>
(bn (nilCheckD a0) fun x29 =>
(bn (fieldAddrO 1 x29) fun x30 =>
(bn (mp (storeO false 1 x30 x28 x27.2) fun x31 => ((D.tup []), x31)) fun x31 =>
(bn (mp (storeO true 3 x0.1 (D.agg [(n64 4), (D.str []), (D.sl Own.full 0 [])]) x31.2) fun x32 => ((D.tup []), x32)) fun x32 =>
(bn (mp (Option.map packD (Option.bind (loadO true 3 x0.1 x32.2) (fun x33 => (some [x33])))) fun x33 => ((Res.ret x33), x32.2)) fun x33 =>
(leaveM M RetK.can A x33.1 x33.2))))))))))
(bn (nilCheckD a0) fun x25 =>
(bn (fieldAddrO 2 x25) fun x26 =>
(bn (mp (loadO false 1 x26 x21.2) fun x27 => (x27, x21.2)) fun x27 =>
(bn (binO .add 3 true x27.1 (n64 1)) fun x28 =>
(bn (nilCheckD a0) fun x29 =>
(bn (fieldAddrO 2 x29) fun x30 =>
(bn (mp (storeO false 1 x30 x28 x27.2) fun x31 => ((D.tup []), x31)) fun x31 =>
(bn (call 33 [a0] x31.2) fun x32 =>
(Res.elim x32.1 (fun x33 => (bn (allocO [(n64 0), (D.str []), (D.sl Own.full 0 [])] x32.2) fun x34 =>
(bn (mp (storeO true 3 x34.1 x33 x34.2) fun x35 => ((D.tup []), x35)) fun x35 =>
(bn (nilCheckD a0) fun x36 =>
(bn (fieldAddrO 2 x36) fun x37 =>
(bn (mp (loadO false 1 x37 x35.2) fun x38 => (x38, x35.2)) fun x38 =>
(bn (binO .sub 3 true x38.1 (n64 1)) fun x39 =>
(bn (nilCheckD a0) fun x40 =>
(bn (fieldAddrO 2 x40) fun x41 =>
(bn (mp (storeO false 1 x41 x39 x38.2) fun x42 => ((D.tup []), x42)) fun x42 =>
(bn (nilCheckD a0) fun x43 =>
(bn (fieldAddrO 3 x43) fun x44 =>
(bn (mp (loadO false 1 x44 x42.2) fun x45 => (x45, x42.2)) fun x45 =>
(bn (binO .eql 3 true x45.1 (n64 0)) fun x46 =>
(bn (guardB true x46) fun x47 =>
(bn (ifb x47 (some a0)
(some (D.tup []))) fun x48 =>
(bn (guardB true x46) fun x49 =>
(bn (ifb x49 (call 56 [x48] x45.2)
(some ((Res.ret (D.tup [])), x45.2))) fun x50 =>
(Res.elim x50.1 (fun x51 => (bn (guardB true x46) fun x52 =>
(bn (ifb x52 (binO .neq 3 true x51 (D.str [(41 : UInt8)]))
(some (D.tup []))) fun x53 =>
(bn (mp (D.bool? x46) fun x54 => (ifb x54 x53
(D.bool false))) fun x54 =>
(bn (D.bool? x54) fun x55 =>
(ifb x55 (bn (call 34 [a0, (n64 90)] x50.2) fun x56 =>
(Res.elim x56.1 (fun x57 => (bn (mp (storeO true 3 x0.1 x57 x56.2) fun x58 => ((D.tup []), x58)) fun x58 =>
(bn (mp (Option.map packD (Option.bind (loadO true 3 x0.1 x58.2) (fun x59 => (some [x59])))) fun x59 => ((Res.ret x59), x58.2)) fun x59 =>
(leaveM M RetK.can A x59.1 x59.2)))) (fun x57 => (leaveM M RetK.can A (Res.pan x57) x56.2))))
(bn (nilCheckD a0) fun x56 =>
(bn (fieldAddrO 1 x56) fun x57 =>
(bn (mp (loadO false 1 x57 x50.2) fun x58 => (x58, x50.2)) fun x58 =>
(bn (binO .add 3 true x58.1 (n64 1)) fun x59 =>
(bn (nilCheckD a0) fun x60 =>
(bn (fieldAddrO 1 x60) fun x61 =>
(bn (mp (storeO false 1 x61 x59 x58.2) fun x62 => ((D.tup []), x62)) fun x62 =>
(bn (mp (loadO true 3 x34.1 x62.2) fun x63 => (x63, x62.2)) fun x63 =>
(bn (mp (storeO true 3 x0.1 x63.1 x63.2) fun x64 => ((D.tup []), x64)) fun x64 =>
(bn (mp (Option.map packD (Option.bind (loadO true 3 x0.1 x64.2) (fun x65 => (some [x65])))) fun x65 => ((Res.ret x65), x64.2)) fun x65 =>
(leaveM M RetK.can A x65.1 x65.2))))))))))))))))) (fun x51 => (leaveM M RetK.can A (Res.pan x51) x50.2))))))))))))))))))))) (fun x33 => (leaveM M RetK.can A (Res.pan x33) x32.2))))))))))))))) (fun x22 => (leaveM M RetK.can A (Res.pan x22) x21.2)))))))))))))))))
(bn (call 80 [x2] x1.2) fun x9 =>
(Res.elim x9.1 (fun x10 => (bn (D.bool? x10) fun x11 =>
(ifb x11 (bn (nilCheckD a0) fun x12 =>
(bn (fieldAddrO 1 x12) fun x13 =>
(bn (mp (loadO false 1 x13 x9.2) fun x14 => (x14, x9.2)) fun x14 =>
(bn (binO .add 3 true x14.1 (n64 1)) fun x15 =>
(bn (nilCheckD a0) fun x16 =>
(bn (fieldAddrO 1 x16) fun x17 =>
(bn (mp (storeO false 1 x17 x15 x14.2) fun x18 => ((D.tup []), x18)) fun x18 =>
(bn (Option.map D.agg (Option.bind (layCells false 1 0 [(n64 0), (D.str []), (D.sl Own.full 0 [])] (n64 1)) (fun (x19 : (List D)) => (Option.bind (layCells false 1 1 x19 x2) (fun (x20 : (List D)) => (some x20)))))) fun x19 =>
(bn (mp (storeO true 3 x0.1 x19 x18.2) fun x20 => ((D.tup []), x20)) fun x20 =>
(bn (mp (Option.map packD (Option.bind (loadO true 3 x0.1 x20.2) (fun x21 => (some [x21])))) fun x21 => ((Res.ret x21), x20.2)) fun x21 =>
(leaveM M RetK.can A x21.1 x21.2)))))))))))
(bn (call 34 [a0, (n64 90)] x9.2) fun x12 =>
(Res.elim x12.1 (fun x13 => (bn (mp (storeO true 3 x0.1 x13 x12.2) fun x14 => ((D.tup []), x14)) fun x14 =>
(bn (mp (Option.map packD (Option.bind (loadO true 3 x0.1 x14.2) (fun x15 => (some [x15])))) fun x15 => ((Res.ret x15), x14.2)) fun x15 =>
(leaveM M RetK.can A x15.1 x15.2)))) (fun x13 => (leaveM M RetK.can A (Res.pan x13) x12.2))))))) (fun x10 => (leaveM M RetK.can A (Res.pan x10) x9.2)))))))))))))) (fun x2 => (leaveM M RetK.can A (Res.pan x2) x1.2)))))
theorem b98 (M : Mode) (call : CallT) (dcall : DcallT) (a0 : D) (A : St) : bodyN M Tryd.prog rxHint kk call dcall 98 [a0] A = f98 M call dcall a0.canon A := by
  kernel_rfl
noncomputable def f99 (M : Mode) (call : CallT) (dcall : DcallT) (a0 : D) (A : St) : (Option (Res × St)) :=
(bn (binO .geq 3 true a0 (D.int IntKind.u8 (48 : Int))) fun x0 =>
(bn (guardB true x0) fun x1 =>
(bn (ifb x1 (some a0)
(some (D.tup []))) fun x2 =>
(bn (guardB true x0) fun x3 =>
(bn (ifb x3 (binO .leq 3 true x2 (D.int IntKind.u8 (57 : Int)))
(some (D.tup []))) fun x4 =>
(bn (mp (D.bool? x0) fun x5 => (ifb x5 x4
(D.bool false))) fun x5 =>
(leaveM M RetK.can A (Res.ret x5) A)))))))
theorem b99 (M : Mode) (call : CallT) (dcall : DcallT) (a0 : D) (A : St) : bodyN M Tryd.prog rxHint kk call dcall 99 [a0] A = f99 M call dcall a0.canon A := by
  kernel_rfl
theorem r99 (a0 : D) (A : St) : Run Tryd.prog rxA 99 [a0] A = f99 mL (Run Tryd.prog rxA) (Dcall Tryd.prog rxA) a0.canon A := (Run_eqN Tryd.prog rxA kk rfl rfl _ _).trans (b99 mL (Run Tryd.prog rxA) (Dcall Tryd.prog rxA) a0 A)
end Go.Vm.Rx
