/- Written by a program: what the abstract run of each function comes to, one definition a function, and its equation. -/
import Derived.Test.YtmaipfiikbcfmaaDoorRxH
import Derived.KernelRfl
set_option linter.all false
namespace Go.Vm.Rx
open Go.Proofs
set_option maxRecDepth 100000
set_option linter.unusedVariables false
set_option maxHeartbeats 0
noncomputable def f101_s0 (M : Mode) (call : CallT) (dcall : DcallT) (A : St) (e : Env) (Av5 : St) : (Option ((Env × St) ⊕ (Res × St))) :=
(bn (binO .lss 3 false (e.g 8) (e.g 9)) fun x0 =>
(bn (D.bool? x0) fun x1 =>
(ifb x1 (bn (indexStrO (e.g 0) (e.g 8)) fun x2 =>
(bn (binO .neq 3 false x2 (e.g 6)) fun x3 =>
(bn (D.bool? x3) fun x4 =>
(bn (ifb x4 (bn (binO .add 3 true (e.g 8) (n64 1)) fun x5 =>
(bn (sliceStrO (e.g 0) (some x5) (some (e.g 9)) none) fun x6 =>
(bn (call 102 [x6, (e.g 6)] Av5) fun x7 =>
(Res.elim x7.1 (fun x8 => (bn (binO .lss 3 true x8 (n64 0)) fun x9 =>
(bn (D.bool? x9) fun x10 =>
(ifb x10 (Option.map (Sum.inr ) (Option.map (Sum.inr ) (bn (leavesD dcall (fun (x11 : St) => (some (n64 (-1)))) (e).df none x7.2) fun x11 =>
(leaveM M RetK.can A x11.1 x11.2))))
(bn (binO .add 3 true x8 (n64 1)) fun x11 =>
(bn (binO .add 3 false (e.g 8) x11) fun x12 =>
(some (Sum.inl ((Env.mk (sp [(0, (e.g 0)), (0, (e.g 1)), (3, (e.g 5)), (0, (e.g 6)), (0, (e.g 7)), (0, x12), (0, (e.g 9)), (0, (e.g 10))] 132) (e).df), x7.2))))))))) (fun x8 => (Option.map (Sum.inr ) (Option.map (Sum.inr ) (bn (leavesD dcall (fun (x9 : St) => (some (e.g 4))) (e).df (some x8) x7.2) fun x9 =>
(leaveM M RetK.can A x9.1 x9.2)))))))))
(some (Sum.inl ((Env.mk (sp [(0, (e.g 0)), (0, (e.g 1)), (3, (e.g 5)), (0, (e.g 6)), (0, (e.g 7)), (0, (e.g 8)), (0, (e.g 9)), (0, (e.g 10))] 132) (e).df), Av5)))) fun x5 =>
(Sum.elim (fun (x6 : (Env × St)) => (bn (binO .add 3 true (x6.1.g 8) (n64 1)) fun x7 =>
(bn (indexStrO (x6.1.g 0) x7) fun x8 =>
(bn (binO .eql 3 false x8 (x6.1.g 7)) fun x9 =>
(bn (guardB true x9) fun x10 =>
(bn (ifb x10 (some (x6.1.g 0))
(some (D.tup []))) fun x11 =>
(bn (guardB true x9) fun x12 =>
(bn (ifb x12 (some (x6.1.g 8))
(some (D.tup []))) fun x13 =>
(bn (guardB true x9) fun x14 =>
(bn (ifb x14 (some (x6.1.g 8))
(some (D.tup []))) fun x15 =>
(bn (guardB true x9) fun x16 =>
(bn (ifb x16 (some (x6.1.g 5))
(some (D.tup []))) fun x17 =>
(bn (guardB true x9) fun x18 =>
(bn (ifb x18 (binO .add 3 false x15 x17)
(some (D.tup []))) fun x19 =>
(bn (guardB true x9) fun x20 =>
(bn (ifb x20 (sliceStrO x11 (some x13) (some x19) none)
(some (D.tup []))) fun x21 =>
(bn (guardB true x9) fun x22 =>
(bn (ifb x22 (some (x6.1.g 1))
(some (D.tup []))) fun x23 =>
(bn (guardB true x9) fun x24 =>
(bn (ifb x24 (binO .eql 3 false x21 x23)
(some (D.tup []))) fun x25 =>
(bn (mp (D.bool? x9) fun x26 => (ifb x26 x25
(D.bool false))) fun x26 =>
(bn (D.bool? x26) fun x27 =>
(ifb x27 (Option.map (Sum.inr ) (bn (leavesD dcall (fun (x28 : St) => (some (x6.1.g 8))) (x6.1).df none x6.2) fun x28 =>
(leaveM M RetK.can A x28.1 x28.2)))
(bn (binO .add 3 true (x6.1.g 8) (n64 1)) fun x28 =>
(bn (binO .add 3 true (x6.1.g 10) (n64 1)) fun x29 =>
(bn (mp (loadO false 1 D.any x6.2) fun x30 => (x30, x6.2)) fun x30 =>
(bn (binO .leq 3 false (x6.1.g 5) x30.1) fun x31 =>
(bn (guardB true x31) fun x32 =>
(bn (ifb x32 (some x29)
(some (D.tup []))) fun x33 =>
(bn (guardB true x31) fun x34 =>
(bn (ifb x34 (some x28)
(some (D.tup []))) fun x35 =>
(bn (guardB true x31) fun x36 =>
(bn (ifb x36 (call 106 [x35] x30.2)
(some ((Res.ret (D.tup [])), x30.2))) fun x37 =>
(Res.elim x37.1 (fun x38 => (bn (guardB true x31) fun x39 =>
(bn (ifb x39 (binO .gtr 3 false x33 x38)
(some (D.tup []))) fun x40 =>
(bn (mp (D.bool? x31) fun x41 => (ifb x41 x40
(D.bool false))) fun x41 =>
(bn (D.bool? x41) fun x42 =>
(ifb x42 (bn (sliceStrO (x6.1.g 0) (some x28) none none) fun x43 =>
(bn (call 105 [x43, (x6.1.g 1)] x37.2) fun x44 =>
(Res.elim x44.1 (fun x45 => (bn (binO .geq 3 true x45 (n64 0)) fun x46 =>
(bn (D.bool? x46) fun x47 =>
(ifb x47 (bn (binO .add 3 false x45 x28) fun x48 =>
(Option.map (Sum.inr ) (bn (leavesD dcall (fun (x49 : St) => (some x48)) (x6.1).df none x44.2) fun x49 =>
(leaveM M RetK.can A x49.1 x49.2))))
(Option.map (Sum.inr ) (bn (leavesD dcall (fun (x48 : St) => (some (n64 (-1)))) (x6.1).df none x44.2) fun x48 =>
(leaveM M RetK.can A x48.1 x48.2))))))) (fun x45 => (Option.map (Sum.inr ) (bn (leavesD dcall (fun (x46 : St) => (some (x6.1.g 4))) (x6.1).df (some x45) x44.2) fun x46 =>
(leaveM M RetK.can A x46.1 x46.2)))))))
(bn (mp (loadO false 1 D.any x37.2) fun x43 => (x43, x37.2)) fun x43 =>
(bn (binO .gtr 3 false (x6.1.g 5) x43.1) fun x44 =>
(bn (guardB true x44) fun x45 =>
(bn (ifb x45 (some x29)
(some (D.tup []))) fun x46 =>
(bn (guardB true x44) fun x47 =>
(bn (ifb x47 (some x28)
(some (D.tup []))) fun x48 =>
(bn (guardB true x44) fun x49 =>
(bn (ifb x49 (binO .shr 3 true x48 (D.int IntKind.u64 (4 : Int)))
(some (D.tup []))) fun x50 =>
(bn (guardB true x44) fun x51 =>
(bn (ifb x51 (binO .add 3 true (n64 4) x50)
(some (D.tup []))) fun x52 =>
(bn (guardB true x44) fun x53 =>
(bn (ifb x53 (binO .geq 3 false x46 x52)
(some (D.tup []))) fun x54 =>
(bn (mp (D.bool? x44) fun x55 => (ifb x55 x54
(D.bool false))) fun x55 =>
(bn (guardB true x55) fun x56 =>
(bn (ifb x56 (some x28)
(some (D.tup []))) fun x57 =>
(bn (guardB true x55) fun x58 =>
(bn (ifb x58 (some (x6.1.g 9))
(some (D.tup []))) fun x59 =>
(bn (guardB true x55) fun x60 =>
(bn (ifb x60 (binO .lss 3 false x57 x59)
(some (D.tup []))) fun x61 =>
(bn (mp (D.bool? x55) fun x62 => (ifb x62 x61
(D.bool false))) fun x62 =>
(bn (D.bool? x62) fun x63 =>
(ifb x63 (bn (sliceStrO (x6.1.g 0) (some x28) none none) fun x64 =>
(bn (call 107 [x64, (x6.1.g 1)] x43.2) fun x65 =>
(Res.elim x65.1 (fun x66 => (bn (binO .lss 3 true x66 (n64 0)) fun x67 =>
(bn (D.bool? x67) fun x68 =>
(ifb x68 (Option.map (Sum.inr ) (bn (leavesD dcall (fun (x69 : St) => (some (n64 (-1)))) (x6.1).df none x65.2) fun x69 =>
(leaveM M RetK.can A x69.1 x69.2)))
(bn (binO .add 3 false x28 x66) fun x69 =>
(Option.map (Sum.inr ) (bn (leavesD dcall (fun (x70 : St) => (some x69)) (x6.1).df none x65.2) fun x70 =>
(leaveM M RetK.can A x70.1 x70.2)))))))) (fun x66 => (Option.map (Sum.inr ) (bn (leavesD dcall (fun (x67 : St) => (some (x6.1.g 4))) (x6.1).df (some x66) x65.2) fun x67 =>
(leaveM M RetK.can A x67.1 x67.2)))))))
(@Mode.gk M ((Env × St) ⊕ (Res × St)) Av5 x43.2 (some (Sum.inl ((Env.mk (sp [(0, (D.shut (List.length Av5) (x6.1.g 0))), (0, (D.shut (List.length Av5) (x6.1.g 1))), (3, (D.shut (List.length Av5) (x6.1.g 5))), (0, (D.shut (List.length Av5) (x6.1.g 6))), (0, (D.shut (List.length Av5) (x6.1.g 7))), (0, (D.shut (List.length Av5) x28)), (0, (D.shut (List.length Av5) (x6.1.g 9))), (0, (D.shut (List.length Av5) x29))] 132) (List.map (fun (x64 : (D × (List D))) => ((D.shut (List.length Av5) x64.1), (D.shutL (List.length Av5) x64.2))) (x6.1).df)), (List.take (List.length Av5) x43.2))))))))))))))))))))))))))))))))) (fun x38 => (Option.map (Sum.inr ) (bn (leavesD dcall (fun (x39 : St) => (some (x6.1.g 4))) (x6.1).df (some x38) x37.2) fun x39 =>
(leaveM M RetK.can A x39.1 x39.2)))))))))))))))))))))))))))))))))))))) (fun (x6 : ((Env × St) ⊕ (Res × St))) => (some x6)) x5)))))
(Option.map (Sum.inr ) (bn (leavesD dcall (fun (x2 : St) => (some (n64 (-1)))) (e).df none Av5) fun x2 =>
(leaveM M RetK.can A x2.1 x2.2))))))
noncomputable def f101 (M : Mode) (call : CallT) (dcall : DcallT) (a0 : D) (a1 : D) (A : St) : (Option (Res × St)) :=
(bn (lenStrO a1) fun x0 =>
(bn (binO .eql 3 true x0 (n64 0)) fun x1 =>
(bn (guardB false x1) fun x2 =>
(bn (ifb x2 (some a1)
(some (D.tup []))) fun x3 =>
(bn (guardB false x1) fun x4 =>
(bn (ifb x4 (some a0)
(some (D.tup []))) fun x5 =>
(bn (guardB false x1) fun x6 =>
(bn (ifb x6 (binO .eql 3 false x3 x5)
(some (D.tup []))) fun x7 =>
(bn (mp (D.bool? x1) fun x8 => (ifb x8 (D.bool true)
 x7)) fun x8 =>
(bn (D.bool? x8) fun x9 =>
(ifb x9 (leaveM M RetK.can A (Res.ret (n64 0)) A)
(bn (binO .eql 3 true x0 (n64 1)) fun x10 =>
(bn (D.bool? x10) fun x11 =>
(ifb x11 (bn (indexStrO a1 (n64 0)) fun x12 =>
(bn (call 102 [a0, x12] A) fun x13 =>
(Res.elim x13.1 (fun x14 => (leaveM M RetK.can A (Res.ret x14) x13.2)) (fun x14 => (leaveM M RetK.can A (Res.pan x14) x13.2)))))
(bn (lenStrO a0) fun x12 =>
(bn (binO .geq 3 false x0 x12) fun x13 =>
(bn (D.bool? x13) fun x14 =>
(ifb x14 (leaveM M RetK.can A (Res.ret (n64 (-1))) A)
(bn (mp (loadO false 1 D.any A) fun x15 => (x15, A)) fun x15 =>
(bn (binO .leq 3 false x0 x15.1) fun x16 =>
(bn (guardB true x16) fun x17 =>
(bn (ifb x17 (some a0)
(some (D.tup []))) fun x18 =>
(bn (guardB true x16) fun x19 =>
(bn (ifb x19 (lenStrO x18)
(some (D.tup []))) fun x20 =>
(bn (guardB true x16) fun x21 =>
(bn (ifb x21 (binO .leq 3 true x20 (n64 64))
(some (D.tup []))) fun x22 =>
(bn (mp (D.bool? x16) fun x23 => (ifb x23 x22
(D.bool false))) fun x23 =>
(bn (D.bool? x23) fun x24 =>
(ifb x24 (bn (call 105 [a0, a1] x15.2) fun x25 =>
(Res.elim x25.1 (fun x26 => (leaveM M RetK.can A (Res.ret x26) x25.2)) (fun x26 => (leaveM M RetK.can A (Res.pan x26) x25.2))))
(bn (indexStrO a1 (n64 0)) fun x25 =>
(bn (indexStrO a1 (n64 1)) fun x26 =>
(bn (lenStrO a0) fun x27 =>
(bn (binO .sub 3 false x27 x0) fun x28 =>
(bn (binO .add 3 true x28 (n64 1)) fun x29 =>
(@Mode.it M (Res × St) (f101_s0 M call dcall A) (Env.mk (sp [(0, a0), (0, a1), (3, x0), (0, x25), (0, x26), (0, (n64 0)), (0, x29), (0, (n64 0))] 132) []) x15.2)))))))))))))))))))))))))))))))))))
theorem b101 (M : Mode) (call : CallT) (dcall : DcallT) (a0 a1 : D) (A : St) : bodyN M Tryd.prog rxHint kk call dcall 101 [a0, a1] A = f101 M call dcall a0.canon a1.canon A := by
  kernel_rfl
noncomputable def f102 (M : Mode) (call : CallT) (dcall : DcallT) (a0 : D) (a1 : D) (A : St) : (Option (Res × St)) :=
(bn (call 108 [a0, a1] A) fun x0 =>
(Res.elim x0.1 (fun x1 => (leaveM M RetK.can A (Res.ret x1) x0.2)) (fun x1 => (leaveM M RetK.can A (Res.pan x1) x0.2))))
theorem b102 (M : Mode) (call : CallT) (dcall : DcallT) (a0 a1 : D) (A : St) : bodyN M Tryd.prog rxHint kk call dcall 102 [a0, a1] A = f102 M call dcall a0.canon a1.canon A := by
  kernel_rfl
noncomputable def f103 (M : Mode) (call : CallT) (dcall : DcallT) (a0 : D) (a1 : D) (A : St) : (Option (Res × St)) :=
(bn (lenStrO a0) fun x0 =>
(bn (lenStrO a1) fun x1 =>
(bn (binO .geq 3 false x0 x1) fun x2 =>
(bn (guardB true x2) fun x3 =>
(bn (ifb x3 (some a0)
(some (D.tup []))) fun x4 =>
(bn (guardB true x2) fun x5 =>
(bn (ifb x5 (some a1)
(some (D.tup []))) fun x6 =>
(bn (guardB true x2) fun x7 =>
(bn (ifb x7 (lenStrO x6)
(some (D.tup []))) fun x8 =>
(bn (guardB true x2) fun x9 =>
(bn (ifb x9 (sliceStrO x4 none (some x8) none)
(some (D.tup []))) fun x10 =>
(bn (guardB true x2) fun x11 =>
(bn (ifb x11 (some a1)
(some (D.tup []))) fun x12 =>
(bn (guardB true x2) fun x13 =>
(bn (ifb x13 (binO .eql 3 false x10 x12)
(some (D.tup []))) fun x14 =>
(bn (mp (D.bool? x2) fun x15 => (ifb x15 x14
(D.bool false))) fun x15 =>
(leaveM M RetK.can A (Res.ret x15) A)))))))))))))))))
theorem b103 (M : Mode) (call : CallT) (dcall : DcallT) (a0 a1 : D) (A : St) : bodyN M Tryd.prog rxHint kk call dcall 103 [a0, a1] A = f103 M call dcall a0.canon a1.canon A := by
  kernel_rfl
noncomputable def f104 (M : Mode) (call : CallT) (dcall : DcallT) (a0 : D) (A : St) : (Option (Res × St)) :=
(bn (nilCheckD a0) fun x0 =>
(bn (fieldAddrO 0 x0) fun x1 =>
(bn (call 77 [x1] A) fun x2 =>
(Res.elim x2.1 (fun x3 => (bn (call 63 [x3] x2.2) fun x4 =>
(Res.elim x4.1 (fun x5 => (bn (unD UnOp.not x5) fun x6 =>
(bn (D.bool? x6) fun x7 =>
(bn (ifb x7 (bn (nilCheckD a0) fun x8 =>
(bn (fieldAddrO 0 x8) fun x9 =>
(bn (call 32 [x9, (n64 90)] x4.2) fun x10 =>
(Res.elim x10.1 (fun x11 => (some (Sum.inl ((Env.mk (sp [(0, a0), (2, x3)] 21) []), x10.2)))) (fun x11 => (Option.map (Sum.inr ) (leaveM M RetK.can A (Res.pan x11) x10.2)))))))
(some (Sum.inl ((Env.mk (sp [(0, a0), (2, x3)] 21) []), x4.2)))) fun x8 =>
(Sum.elim (fun (x9 : (Env × St)) => (bn (nilCheckD (x9.1.g 0)) fun x10 =>
(bn (fieldAddrO 0 x10) fun x11 =>
(bn (fieldAddrO 1 x11) fun x12 =>
(bn (mp (loadO false 1 x12 x9.2) fun x13 => (x13, x9.2)) fun x13 =>
(bn (binO .add 3 true x13.1 (n64 1)) fun x14 =>
(bn (nilCheckD (x9.1.g 0)) fun x15 =>
(bn (fieldAddrO 0 x15) fun x16 =>
(bn (fieldAddrO 1 x16) fun x17 =>
(bn (mp (storeO false 1 x17 x14 x13.2) fun x18 => ((D.tup []), x18)) fun x18 =>
(bn (leavesD dcall (fun (x19 : St) => (some (x9.1.g 3))) (x9.1).df none x18.2) fun x19 =>
(leaveM M RetK.can A x19.1 x19.2)))))))))))) (fun (x9 : (Res × St)) => (some x9)) x8))))) (fun x5 => (leaveM M RetK.can A (Res.pan x5) x4.2))))) (fun x3 => (leaveM M RetK.can A (Res.pan x3) x2.2))))))
theorem b104 (M : Mode) (call : CallT) (dcall : DcallT) (a0 : D) (A : St) : bodyN M Tryd.prog rxHint kk call dcall 104 [a0] A = f104 M call dcall a0.canon A := by
  kernel_rfl
def e26_8 (t6 t7 : D) : List D := sp [(6, t6), (0, t7)] 32
noncomputable def d30n (M : Mode) (call : CallT) (a0 : D) (a1 : D) (a2 : D) (A : St) : (Option ((Option D) × St)) :=
(bn (D.bool? (negIf false true)) fun x0 =>
(ifb x0 (@Mode.gk M ((Option D) × St) A A (some (none, (List.take (List.length A) A))))
(bn (assertV (some (D.agg [(n64 0), (n64 0)])) (D.val Value.nilIface) 69 true) fun x1 =>
(bn (extractD x1 0) fun x2 =>
(bn (extractD x1 1) fun x3 =>
(bn (allocO [(n64 0), (n64 0)] A) fun x4 =>
(bn (mp (storeO true 2 x4.1 x2 x4.2) fun x5 => ((D.tup []), x5)) fun x5 =>
(bn (unD UnOp.not x3) fun x6 =>
(bn (D.bool? x6) fun x7 =>
(ifb x7 (bn (mp (panicD (D.val Value.nilIface)) fun x8 => (x8, x5.2)) fun x8 =>
(Res.elim x8.1 (fun x9 => (bn (fieldAddrO 0 x4.1) fun x10 =>
(bn (mp (mp (loadO false 1 x10 x8.2) fun x11 => (x11, x8.2)) fun x11 => x11.1) fun x11 =>
(bn (fieldAddrO 1 x4.1) fun x12 =>
(bn (mp (mp (loadO false 1 x12 x8.2) fun x13 => (x13, x8.2)) fun x13 => x13.1) fun x13 =>
(bn (mp (storeO true 3 a0 (D.agg [(n64 0), (D.str []), (D.sl Own.full 0 [])]) x8.2) fun x14 => ((D.tup []), x14)) fun x14 =>
(bn (mp (storeO false 1 a1 x11 x14.2) fun x15 => ((D.tup []), x15)) fun x15 =>
(bn (mp (storeO false 1 a2 x13 x15.2) fun x16 => ((D.tup []), x16)) fun x16 =>
(@Mode.gs M ((Option D) × St) ((sameAd x10 x8.2 x14.2) ∧ ((sameAd x12 x8.2 x14.2) ∧ ((sameAd x12 x14.2 x15.2) ∧ True))) (Bool.and (sameAdB x10 x8.2 x14.2) (Bool.and (sameAdB x12 x8.2 x14.2) (Bool.and (sameAdB x12 x14.2 x15.2) true))) (@Mode.gk M ((Option D) × St) A x16.2 (some (none, (List.take (List.length A) x16.2))))))))))))) (fun x9 => none)))
(bn (fieldAddrO 0 x4.1) fun x8 =>
(bn (mp (mp (loadO false 1 x8 x5.2) fun x9 => (x9, x5.2)) fun x9 => x9.1) fun x9 =>
(bn (fieldAddrO 1 x4.1) fun x10 =>
(bn (mp (mp (loadO false 1 x10 x5.2) fun x11 => (x11, x5.2)) fun x11 => x11.1) fun x11 =>
(bn (mp (storeO true 3 a0 (D.agg [(n64 0), (D.str []), (D.sl Own.full 0 [])]) x5.2) fun x12 => ((D.tup []), x12)) fun x12 =>
(bn (mp (storeO false 1 a1 x9 x12.2) fun x13 => ((D.tup []), x13)) fun x13 =>
(bn (mp (storeO false 1 a2 x11 x13.2) fun x14 => ((D.tup []), x14)) fun x14 =>
(@Mode.gs M ((Option D) × St) ((sameAd x8 x5.2 x12.2) ∧ ((sameAd x10 x5.2 x12.2) ∧ ((sameAd x10 x12.2 x13.2) ∧ True))) (Bool.and (sameAdB x8 x5.2 x12.2) (Bool.and (sameAdB x10 x5.2 x12.2) (Bool.and (sameAdB x10 x12.2 x13.2) true))) (@Mode.gk M ((Option D) × St) A x14.2 (some (none, (List.take (List.length A) x14.2))))))))))))))))))))))
theorem bd30n (M : Mode) (call : CallT) (a0 a1 a2 : D) (A : St) : dbodyK M Tryd.prog rxHint kk call 30 [a0, a1, a2] none A = d30n M call a0 a1 a2 A := by
  kernel_rfl
noncomputable def d30p (M : Mode) (call : CallT) (p : D) (a0 : D) (a1 : D) (a2 : D) (A : St) : (Option ((Option D) × St)) :=
(bn (binO .eql 1 true p (D.val Value.nilIface)) fun x0 =>
(bn (D.bool? x0) fun x1 =>
(ifb x1 (@Mode.gk M ((Option D) × St) A A (some (none, (List.take (List.length A) A))))
(bn (assertV (some (D.agg [(n64 0), (n64 0)])) p 69 true) fun x2 =>
(bn (extractD x2 0) fun x3 =>
(bn (extractD x2 1) fun x4 =>
(bn (allocO [(n64 0), (n64 0)] A) fun x5 =>
(bn (mp (storeO true 2 x5.1 x3 x5.2) fun x6 => ((D.tup []), x6)) fun x6 =>
(bn (unD UnOp.not x4) fun x7 =>
(bn (D.bool? x7) fun x8 =>
(ifb x8 (bn (mp (panicD p) fun x9 => (x9, x6.2)) fun x9 =>
(Res.elim x9.1 (fun x10 => (bn (fieldAddrO 0 x5.1) fun x11 =>
(bn (mp (mp (loadO false 1 x11 x9.2) fun x12 => (x12, x9.2)) fun x12 => x12.1) fun x12 =>
(bn (fieldAddrO 1 x5.1) fun x13 =>
(bn (mp (mp (loadO false 1 x13 x9.2) fun x14 => (x14, x9.2)) fun x14 => x14.1) fun x14 =>
(bn (mp (storeO true 3 a0 (D.agg [(n64 0), (D.str []), (D.sl Own.full 0 [])]) x9.2) fun x15 => ((D.tup []), x15)) fun x15 =>
(bn (mp (storeO false 1 a1 x12 x15.2) fun x16 => ((D.tup []), x16)) fun x16 =>
(bn (mp (storeO false 1 a2 x14 x16.2) fun x17 => ((D.tup []), x17)) fun x17 =>
(@Mode.gs M ((Option D) × St) ((sameAd x11 x9.2 x15.2) ∧ ((sameAd x13 x9.2 x15.2) ∧ ((sameAd x13 x15.2 x16.2) ∧ True))) (Bool.and (sameAdB x11 x9.2 x15.2) (Bool.and (sameAdB x13 x9.2 x15.2) (Bool.and (sameAdB x13 x15.2 x16.2) true))) (@Mode.gk M ((Option D) × St) A x17.2 (some (none, (List.take (List.length A) x17.2))))))))))))) (fun x10 => none)))
(bn (fieldAddrO 0 x5.1) fun x9 =>
(bn (mp (mp (loadO false 1 x9 x6.2) fun x10 => (x10, x6.2)) fun x10 => x10.1) fun x10 =>
(bn (fieldAddrO 1 x5.1) fun x11 =>
(bn (mp (mp (loadO false 1 x11 x6.2) fun x12 => (x12, x6.2)) fun x12 => x12.1) fun x12 =>
(bn (mp (storeO true 3 a0 (D.agg [(n64 0), (D.str []), (D.sl Own.full 0 [])]) x6.2) fun x13 => ((D.tup []), x13)) fun x13 =>
(bn (mp (storeO false 1 a1 x10 x13.2) fun x14 => ((D.tup []), x14)) fun x14 =>
(bn (mp (storeO false 1 a2 x12 x14.2) fun x15 => ((D.tup []), x15)) fun x15 =>
(@Mode.gs M ((Option D) × St) ((sameAd x9 x6.2 x13.2) ∧ ((sameAd x11 x6.2 x13.2) ∧ ((sameAd x11 x13.2 x14.2) ∧ True))) (Bool.and (sameAdB x9 x6.2 x13.2) (Bool.and (sameAdB x11 x6.2 x13.2) (Bool.and (sameAdB x11 x13.2 x14.2) true))) (@Mode.gk M ((Option D) × St) A x15.2 (some (none, (List.take (List.length A) x15.2)))))))))))))))))))))))
theorem bd30p (M : Mode) (call : CallT) (p a0 a1 a2 : D) (A : St) : dbodyK M Tryd.prog rxHint kk call 30 [a0, a1, a2] (some p) A = d30p M call p a0 a1 a2 A := by
  kernel_rfl
noncomputable def d46n (M : Mode) (call : CallT) (a0 : D) (a1 : D) (a2 : D) (a3 : D) (A : St) : (Option ((Option D) × St)) :=
(bn (D.bool? (negIf false true)) fun x0 =>
(ifb x0 (@Mode.gk M ((Option D) × St) A A (some (none, (List.take (List.length A) A))))
(bn (assertV (some (D.agg [(n64 0), (n64 0)])) (D.val Value.nilIface) 93 true) fun x1 =>
(bn (extractD x1 0) fun x2 =>
(bn (extractD x1 1) fun x3 =>
(bn (allocO [(n64 0), (n64 0)] A) fun x4 =>
(bn (mp (storeO true 2 x4.1 x2 x4.2) fun x5 => ((D.tup []), x5)) fun x5 =>
(bn (unD UnOp.not x3) fun x6 =>
(bn (D.bool? x6) fun x7 =>
(ifb x7 (bn (mp (panicD (D.val Value.nilIface)) fun x8 => (x8, x5.2)) fun x8 =>
(Res.elim x8.1 (fun x9 => (bn (fieldAddrO 0 x4.1) fun x10 =>
(bn (mp (mp (loadO false 1 x10 x8.2) fun x11 => (x11, x8.2)) fun x11 => x11.1) fun x11 =>
(bn (fieldAddrO 1 x4.1) fun x12 =>
(bn (mp (mp (loadO false 1 x12 x8.2) fun x13 => (x13, x8.2)) fun x13 => x13.1) fun x13 =>
(bn (mp (storeO false 1 a0 (D.sl Own.full 0 []) x8.2) fun x14 => ((D.tup []), x14)) fun x14 =>
(bn (mp (storeO false 1 a1 x11 x14.2) fun x15 => ((D.tup []), x15)) fun x15 =>
(bn (mp (storeO false 1 a2 x13 x15.2) fun x16 => ((D.tup []), x16)) fun x16 =>
(bn (mp (storeO false 1 a3 (n64 30) x16.2) fun x17 => ((D.tup []), x17)) fun x17 =>
(@Mode.gs M ((Option D) × St) ((sameAd x10 x8.2 x14.2) ∧ ((sameAd x12 x8.2 x14.2) ∧ ((sameAd x12 x14.2 x15.2) ∧ True))) (Bool.and (sameAdB x10 x8.2 x14.2) (Bool.and (sameAdB x12 x8.2 x14.2) (Bool.and (sameAdB x12 x14.2 x15.2) true))) (@Mode.gk M ((Option D) × St) A x17.2 (some (none, (List.take (List.length A) x17.2)))))))))))))) (fun x9 => none)))
(bn (fieldAddrO 0 x4.1) fun x8 =>
(bn (mp (mp (loadO false 1 x8 x5.2) fun x9 => (x9, x5.2)) fun x9 => x9.1) fun x9 =>
(bn (fieldAddrO 1 x4.1) fun x10 =>
(bn (mp (mp (loadO false 1 x10 x5.2) fun x11 => (x11, x5.2)) fun x11 => x11.1) fun x11 =>
(bn (mp (storeO false 1 a0 (D.sl Own.full 0 []) x5.2) fun x12 => ((D.tup []), x12)) fun x12 =>
(bn (mp (storeO false 1 a1 x9 x12.2) fun x13 => ((D.tup []), x13)) fun x13 =>
(bn (mp (storeO false 1 a2 x11 x13.2) fun x14 => ((D.tup []), x14)) fun x14 =>
(bn (mp (storeO false 1 a3 (n64 30) x14.2) fun x15 => ((D.tup []), x15)) fun x15 =>
(@Mode.gs M ((Option D) × St) ((sameAd x8 x5.2 x12.2) ∧ ((sameAd x10 x5.2 x12.2) ∧ ((sameAd x10 x12.2 x13.2) ∧ True))) (Bool.and (sameAdB x8 x5.2 x12.2) (Bool.and (sameAdB x10 x5.2 x12.2) (Bool.and (sameAdB x10 x12.2 x13.2) true))) (@Mode.gk M ((Option D) × St) A x15.2 (some (none, (List.take (List.length A) x15.2)))))))))))))))))))))))
theorem bd46n (M : Mode) (call : CallT) (a0 a1 a2 a3 : D) (A : St) : dbodyK M Tryd.prog rxHint kk call 46 [a0, a1, a2, a3] none A = d46n M call a0 a1 a2 a3 A := by
  kernel_rfl
noncomputable def d46p (M : Mode) (call : CallT) (p : D) (a0 : D) (a1 : D) (a2 : D) (a3 : D) (A : St) : (Option ((Option D) × St)) :=
(bn (binO .eql 1 true p (D.val Value.nilIface)) fun x0 =>
(bn (D.bool? x0) fun x1 =>
(ifb x1 (@Mode.gk M ((Option D) × St) A A (some (none, (List.take (List.length A) A))))
(bn (assertV (some (D.agg [(n64 0), (n64 0)])) p 93 true) fun x2 =>
(bn (extractD x2 0) fun x3 =>
(bn (extractD x2 1) fun x4 =>
(bn (allocO [(n64 0), (n64 0)] A) fun x5 =>
(bn (mp (storeO true 2 x5.1 x3 x5.2) fun x6 => ((D.tup []), x6)) fun x6 =>
(bn (unD UnOp.not x4) fun x7 =>
(bn (D.bool? x7) fun x8 =>
(ifb x8 (bn (mp (panicD p) fun x9 => (x9, x6.2)) fun x9 =>
(Res.elim x9.1 (fun x10 => (bn (fieldAddrO 0 x5.1) fun x11 =>
(bn (mp (mp (loadO false 1 x11 x9.2) fun x12 => (x12, x9.2)) fun x12 => x12.1) fun x12 =>
(bn (fieldAddrO 1 x5.1) fun x13 =>
(bn (mp (mp (loadO false 1 x13 x9.2) fun x14 => (x14, x9.2)) fun x14 => x14.1) fun x14 =>
(bn (mp (storeO false 1 a0 (D.sl Own.full 0 []) x9.2) fun x15 => ((D.tup []), x15)) fun x15 =>
(bn (mp (storeO false 1 a1 x12 x15.2) fun x16 => ((D.tup []), x16)) fun x16 =>
(bn (mp (storeO false 1 a2 x14 x16.2) fun x17 => ((D.tup []), x17)) fun x17 =>
(bn (mp (storeO false 1 a3 (n64 30) x17.2) fun x18 => ((D.tup []), x18)) fun x18 =>
(@Mode.gs M ((Option D) × St) ((sameAd x11 x9.2 x15.2) ∧ ((sameAd x13 x9.2 x15.2) ∧ ((sameAd x13 x15.2 x16.2) ∧ True))) (Bool.and (sameAdB x11 x9.2 x15.2) (Bool.and (sameAdB x13 x9.2 x15.2) (Bool.and (sameAdB x13 x15.2 x16.2) true))) (@Mode.gk M ((Option D) × St) A x18.2 (some (none, (List.take (List.length A) x18.2)))))))))))))) (fun x10 => none)))
(bn (fieldAddrO 0 x5.1) fun x9 =>
(bn (mp (mp (loadO false 1 x9 x6.2) fun x10 => (x10, x6.2)) fun x10 => x10.1) fun x10 =>
(bn (fieldAddrO 1 x5.1) fun x11 =>
(bn (mp (mp (loadO false 1 x11 x6.2) fun x12 => (x12, x6.2)) fun x12 => x12.1) fun x12 =>
(bn (mp (storeO false 1 a0 (D.sl Own.full 0 []) x6.2) fun x13 => ((D.tup []), x13)) fun x13 =>
(bn (mp (storeO false 1 a1 x10 x13.2) fun x14 => ((D.tup []), x14)) fun x14 =>
(bn (mp (storeO false 1 a2 x12 x14.2) fun x15 => ((D.tup []), x15)) fun x15 =>
(bn (mp (storeO false 1 a3 (n64 30) x15.2) fun x16 => ((D.tup []), x16)) fun x16 =>
(@Mode.gs M ((Option D) × St) ((sameAd x9 x6.2 x13.2) ∧ ((sameAd x11 x6.2 x13.2) ∧ ((sameAd x11 x13.2 x14.2) ∧ True))) (Bool.and (sameAdB x9 x6.2 x13.2) (Bool.and (sameAdB x11 x6.2 x13.2) (Bool.and (sameAdB x11 x13.2 x14.2) true))) (@Mode.gk M ((Option D) × St) A x16.2 (some (none, (List.take (List.length A) x16.2))))))))))))))))))))))))
theorem bd46p (M : Mode) (call : CallT) (p a0 a1 a2 a3 : D) (A : St) : dbodyK M Tryd.prog rxHint kk call 46 [a0, a1, a2, a3] (some p) A = d46p M call p a0 a1 a2 a3 A := by
  kernel_rfl
noncomputable def f3 (M : Mode) (call : CallT) (dcall : DcallT) (a0 : D) (A : St) : (Option (Res × St)) :=
(bn (lenStrO a0) fun x0 =>
(bn (binO .gtr 3 true x0 (n64 2000)) fun x1 =>
(bn (D.bool? x1) fun x2 =>
(bn (ifb x2 (bn (sliceStrO a0 none (some (n64 2000)) none) fun x3 =>
(some (Sum.inl ((Env.mk (sp [(0, x3)] 50) []), A))))
(some (Sum.inl ((Env.mk (sp [(0, a0)] 50) []), A)))) fun x3 =>
(Sum.elim (fun (x4 : (Env × St)) => (bn (call 9 [(x4.1.g 0)] x4.2) fun x5 =>
(Res.elim x5.1 (fun x6 => (bn (extractD x6 0) fun x7 =>
(bn (extractD x6 1) fun x8 =>
(bn (extractD x6 2) fun x9 =>
(bn (extractD x6 3) fun x10 =>
(bn (allocO [(n64 0), (D.str []), (D.sl Own.full 0 [])] x5.2) fun x11 =>
(bn (mp (storeO true 3 x11.1 x7 x11.2) fun x12 => ((D.tup []), x12)) fun x12 =>
(bn (call 10 [(x4.1.g 0)] x12.2) fun x13 =>
(Res.elim x13.1 (fun x14 => (bn (extractD x14 0) fun x15 =>
(bn (extractD x14 1) fun x16 =>
(bn (extractD x14 2) fun x17 =>
(bn (extractD x14 3) fun x18 =>
(bn (allocO [(n64 0), (D.str []), (D.sl Own.full 0 [])] x13.2) fun x19 =>
(bn (mp (storeO true 3 x19.1 x15 x19.2) fun x20 => ((D.tup []), x20)) fun x20 =>
(bn (mp (loadO true 3 x11.1 x20.2) fun x21 => (x21, x20.2)) fun x21 =>
(bn (mp (loadO true 3 x19.1 x21.2) fun x22 => (x22, x21.2)) fun x22 =>
(bn (call 11 [x21.1, x22.1] x22.2) fun x23 =>
(Res.elim x23.1 (fun x24 => (bn (guardB true x24) fun x25 =>
(bn (ifb x25 (some x8)
(some (D.tup []))) fun x26 =>
(bn (guardB true x24) fun x27 =>
(bn (ifb x27 (some x16)
(some (D.tup []))) fun x28 =>
(bn (guardB true x24) fun x29 =>
(bn (ifb x29 (binO .eql 3 false x26 x28)
(some (D.tup []))) fun x30 =>
(bn (mp (D.bool? x24) fun x31 => (ifb x31 x30
(D.bool false))) fun x31 =>
(bn (guardB true x31) fun x32 =>
(bn (ifb x32 (some x9)
(some (D.tup []))) fun x33 =>
(bn (guardB true x31) fun x34 =>
(bn (ifb x34 (some x17)
(some (D.tup []))) fun x35 =>
(bn (guardB true x31) fun x36 =>
(bn (ifb x36 (binO .eql 3 false x33 x35)
(some (D.tup []))) fun x37 =>
(bn (mp (D.bool? x31) fun x38 => (ifb x38 x37
(D.bool false))) fun x38 =>
(bn (guardB true x38) fun x39 =>
(bn (ifb x39 (some x10)
(some (D.tup []))) fun x40 =>
(bn (guardB true x38) fun x41 =>
(bn (ifb x41 (some x18)
(some (D.tup []))) fun x42 =>
(bn (guardB true x38) fun x43 =>
(bn (ifb x43 (binO .eql 3 false x40 x42)
(some (D.tup []))) fun x44 =>
(bn (mp (D.bool? x38) fun x45 => (ifb x45 x44
(D.bool false))) fun x45 =>
(bn (guardB true x45) fun x46 =>
(bn (ifb x46 (call 12 [] x23.2)
(some ((Res.ret (D.tup [])), x23.2))) fun x47 =>
(Res.elim x47.1 (fun x48 => (bn (mp (D.bool? x45) fun x49 => (ifb x49 x48
(D.bool false))) fun x49 =>
(bn (leavesD dcall (fun (x50 : St) => (some x49)) (x4.1).df none x47.2) fun x50 =>
(leaveM M RetK.can A x50.1 x50.2)))) (fun x48 => (bn (leavesD dcall (fun (x49 : St) => (some (x4.1.g 2))) (x4.1).df (some x48) x47.2) fun x49 =>
(leaveM M RetK.can A x49.1 x49.2)))))))))))))))))))))))))))) (fun x24 => (bn (leavesD dcall (fun (x25 : St) => (some (x4.1.g 2))) (x4.1).df (some x24) x23.2) fun x25 =>
(leaveM M RetK.can A x25.1 x25.2)))))))))))))) (fun x14 => (bn (leavesD dcall (fun (x15 : St) => (some (x4.1.g 2))) (x4.1).df (some x14) x13.2) fun x15 =>
(leaveM M RetK.can A x15.1 x15.2)))))))))))) (fun x6 => (bn (leavesD dcall (fun (x7 : St) => (some (x4.1.g 2))) (x4.1).df (some x6) x5.2) fun x7 =>
(leaveM M RetK.can A x7.1 x7.2)))))) (fun (x4 : (Res × St)) => (some x4)) x3)))))
theorem b3 (M : Mode) (call : CallT) (dcall : DcallT) (a0 : D) (A : St) : bodyN M Tryd.prog rxHint kk call dcall 3 [a0] A = f3 M call dcall a0.canon A := by
  kernel_rfl
theorem r3 (a0 : D) (A : St) : Run Tryd.prog rxA 3 [a0] A = f3 mL (Run Tryd.prog rxA) (Dcall Tryd.prog rxA) a0.canon A := (Run_eqN Tryd.prog rxA kk rfl rfl _ _).trans (b3 mL (Run Tryd.prog rxA) (Dcall Tryd.prog rxA) a0 A)
noncomputable def f4 (M : Mode) (call : CallT) (dcall : DcallT) (a0 : D) (A : St) : (Option (Res × St)) :=
(bn (lenSlO a0) fun x0 =>
(bn (binO .gtr 3 true x0 (n64 2000)) fun x1 =>
(bn (D.bool? x1) fun x2 =>
(bn (ifb x2 (bn (sliceSlO 3 a0 none (some (n64 2000)) none) fun x3 =>
(some (Sum.inl ((Env.mk (sp [(0, x3)] 41) []), A))))
(some (Sum.inl ((Env.mk (sp [(0, a0)] 41) []), A)))) fun x3 =>
(Sum.elim (fun (x4 : (Env × St)) => (bn (call 13 [(x4.1.g 0)] x4.2) fun x5 =>
(Res.elim x5.1 (fun x6 => (bn (extractD x6 0) fun x7 =>
(bn (extractD x6 1) fun x8 =>
(bn (extractD x6 2) fun x9 =>
(bn (allocO [(n64 0), (D.str []), (D.sl Own.full 0 [])] x5.2) fun x10 =>
(bn (mp (storeO true 3 x10.1 x7 x10.2) fun x11 => ((D.tup []), x11)) fun x11 =>
(bn (call 14 [(x4.1.g 0)] x11.2) fun x12 =>
(Res.elim x12.1 (fun x13 => (bn (extractD x13 0) fun x14 =>
(bn (extractD x13 1) fun x15 =>
(bn (extractD x13 2) fun x16 =>
(bn (allocO [(n64 0), (D.str []), (D.sl Own.full 0 [])] x12.2) fun x17 =>
(bn (mp (storeO true 3 x17.1 x14 x17.2) fun x18 => ((D.tup []), x18)) fun x18 =>
(bn (mp (loadO true 3 x10.1 x18.2) fun x19 => (x19, x18.2)) fun x19 =>
(bn (mp (loadO true 3 x17.1 x19.2) fun x20 => (x20, x19.2)) fun x20 =>
(bn (call 11 [x19.1, x20.1] x20.2) fun x21 =>
(Res.elim x21.1 (fun x22 => (bn (guardB true x22) fun x23 =>
(bn (ifb x23 (some x8)
(some (D.tup []))) fun x24 =>
(bn (guardB true x22) fun x25 =>
(bn (ifb x25 (some x15)
(some (D.tup []))) fun x26 =>
(bn (guardB true x22) fun x27 =>
(bn (ifb x27 (binO .eql 3 false x24 x26)
(some (D.tup []))) fun x28 =>
(bn (mp (D.bool? x22) fun x29 => (ifb x29 x28
(D.bool false))) fun x29 =>
(bn (guardB true x29) fun x30 =>
(bn (ifb x30 (some x9)
(some (D.tup []))) fun x31 =>
(bn (guardB true x29) fun x32 =>
(bn (ifb x32 (some x16)
(some (D.tup []))) fun x33 =>
(bn (guardB true x29) fun x34 =>
(bn (ifb x34 (binO .eql 3 false x31 x33)
(some (D.tup []))) fun x35 =>
(bn (mp (D.bool? x29) fun x36 => (ifb x36 x35
(D.bool false))) fun x36 =>
(bn (guardB true x36) fun x37 =>
(bn (ifb x37 (call 12 [] x21.2)
(some ((Res.ret (D.tup [])), x21.2))) fun x38 =>
(Res.elim x38.1 (fun x39 => (bn (mp (D.bool? x36) fun x40 => (ifb x40 x39
(D.bool false))) fun x40 =>
(bn (leavesD dcall (fun (x41 : St) => (some x40)) (x4.1).df none x38.2) fun x41 =>
(leaveM M RetK.can A x41.1 x41.2)))) (fun x39 => (bn (leavesD dcall (fun (x40 : St) => (some (x4.1.g 2))) (x4.1).df (some x39) x38.2) fun x40 =>
(leaveM M RetK.can A x40.1 x40.2))))))))))))))))))))) (fun x22 => (bn (leavesD dcall (fun (x23 : St) => (some (x4.1.g 2))) (x4.1).df (some x22) x21.2) fun x23 =>
(leaveM M RetK.can A x23.1 x23.2))))))))))))) (fun x13 => (bn (leavesD dcall (fun (x14 : St) => (some (x4.1.g 2))) (x4.1).df (some x13) x12.2) fun x14 =>
(leaveM M RetK.can A x14.1 x14.2))))))))))) (fun x6 => (bn (leavesD dcall (fun (x7 : St) => (some (x4.1.g 2))) (x4.1).df (some x6) x5.2) fun x7 =>
(leaveM M RetK.can A x7.1 x7.2)))))) (fun (x4 : (Res × St)) => (some x4)) x3)))))
theorem b4 (M : Mode) (call : CallT) (dcall : DcallT) (a0 : D) (A : St) : bodyN M Tryd.prog rxHint kk call dcall 4 [a0] A = f4 M call dcall a0.canon A := by
  kernel_rfl
noncomputable def f5 (M : Mode) (call : CallT) (dcall : DcallT) (a0 : D) (a1 : D) (a2 : D) (A : St) : (Option (Res × St)) :=
(bn (boxO true a0 A) fun x0 =>
(bn (boxO true a1 x0.2) fun x1 =>
(bn (call 15 [a2] x1.2) fun x2 =>
(Res.elim x2.1 (fun x3 => (bn (mp (loadO true 3 x0.1 x2.2) fun x4 => (x4, x2.2)) fun x4 =>
(bn (call 16 [x4.1] x4.2) fun x5 =>
(Res.elim x5.1 (fun x6 => (bn (binO .neq 3 true x6 (n64 0)) fun x7 =>
(bn (guardB false x7) fun x8 =>
(bn (ifb x8 (mp (loadO true 3 x1.1 x5.2) fun x9 => (x9, x5.2))
(some ((D.tup []), x5.2))) fun x9 =>
(bn (guardB false x7) fun x10 =>
(bn (ifb x10 (call 16 [x9.1] x9.2)
(some ((Res.ret (D.tup [])), x9.2))) fun x11 =>
(Res.elim x11.1 (fun x12 => (bn (guardB false x7) fun x13 =>
(bn (ifb x13 (binO .neq 3 true x12 (n64 0))
(some (D.tup []))) fun x14 =>
(bn (mp (D.bool? x7) fun x15 => (ifb x15 (D.bool true)
 x14)) fun x15 =>
(bn (D.bool? x15) fun x16 =>
(ifb x16 (bn (call 12 [] x11.2) fun x17 =>
(Res.elim x17.1 (fun x18 => (leaveM M RetK.can A (Res.ret x18) x17.2)) (fun x18 => (leaveM M RetK.can A (Res.pan x18) x17.2))))
(bn (mp (loadO true 3 x0.1 x11.2) fun x17 => (x17, x11.2)) fun x17 =>
(bn (call 17 [(n64 6), x17.1] x17.2) fun x18 =>
(Res.elim x18.1 (fun x19 => (bn (allocO [(n64 0), (D.str []), (D.sl Own.full 0 [])] x18.2) fun x20 =>
(bn (mp (storeO true 3 x20.1 x19 x20.2) fun x21 => ((D.tup []), x21)) fun x21 =>
(bn (mp (mp (loadO true 3 x0.1 x21.2) fun x22 => (x22, x21.2)) fun x22 => x22.1) fun x22 =>
(bn (call 17 [(n64 7), x22] x21.2) fun x23 =>
(Res.elim x23.1 (fun x24 => (bn (mp (mp (loadO true 3 x0.1 x23.2) fun x25 => (x25, x23.2)) fun x25 => x25.1) fun x25 =>
(bn (mp (mp (loadO true 3 x20.1 x23.2) fun x26 => (x26, x23.2)) fun x26 => x26.1) fun x26 =>
(bn (mp (mp (Option.map (D.sl Own.full 3) (sliceParts 3 true 0 [(0, x25), (1, x26)])) fun x27 => (x27, ([] : St))) fun x27 => x27.1) fun x27 =>
(bn (call 19 [(n64 4), x27] x23.2) fun x28 =>
(Res.elim x28.1 (fun x29 => (bn (call 18 [x24, x29, x3] x28.2) fun x30 =>
(Res.elim x30.1 (fun x31 => (bn (unD UnOp.not x31) fun x32 =>
(@Mode.gs M (Res × St) ((sameAd x0.1 x21.2 x23.2) ∧ ((sameAd x20.1 x21.2 x23.2) ∧ True)) (Bool.and (sameAdB x0.1 x21.2 x23.2) (Bool.and (sameAdB x20.1 x21.2 x23.2) true)) (bn (D.bool? x32) fun x33 =>
(ifb x33 (leaveM M RetK.can A (Res.ret (D.bool false)) x30.2)
(bn (mp (mp (loadO true 3 x0.1 x30.2) fun x34 => (x34, x30.2)) fun x34 => x34.1) fun x34 =>
(bn (call 17 [(n64 8), x34] x30.2) fun x35 =>
(Res.elim x35.1 (fun x36 => (bn (mp (mp (loadO true 3 x0.1 x35.2) fun x37 => (x37, x35.2)) fun x37 => x37.1) fun x37 =>
(bn (mp (mp (Option.map (D.sl Own.full 3) (sliceParts 3 true 0 [(0, x37), (1, (D.agg [(n64 4), (D.str []), (D.sl Own.full 0 [])]))])) fun x38 => (x38, ([] : St))) fun x38 => x38.1) fun x38 =>
(bn (call 19 [(n64 5), x38] x35.2) fun x39 =>
(Res.elim x39.1 (fun x40 => (bn (call 18 [x36, x40, x3] x39.2) fun x41 =>
(Res.elim x41.1 (fun x42 => (bn (unD UnOp.not x42) fun x43 =>
(@Mode.gs M (Res × St) ((sameAd x0.1 x30.2 x35.2) ∧ True) (Bool.and (sameAdB x0.1 x30.2 x35.2) true) (bn (D.bool? x43) fun x44 =>
(ifb x44 (leaveM M RetK.can A (Res.ret (D.bool false)) x41.2)
(bn (mp (loadO true 3 x0.1 x41.2) fun x45 => (x45, x41.2)) fun x45 =>
(bn (mp (loadO true 3 x1.1 x45.2) fun x46 => (x46, x45.2)) fun x46 =>
(bn (mp (Option.map (D.sl Own.full 3) (sliceParts 3 true 0 [(0, x45.1), (1, x46.1)])) fun x47 => (x47, x46.2)) fun x47 =>
(bn (call 19 [(n64 5), x47.1] x47.2) fun x48 =>
(Res.elim x48.1 (fun x49 => (bn (call 17 [(n64 6), x49] x48.2) fun x50 =>
(Res.elim x50.1 (fun x51 => (bn (allocO [(n64 0), (D.str []), (D.sl Own.full 0 [])] x50.2) fun x52 =>
(bn (mp (storeO true 3 x52.1 x51 x52.2) fun x53 => ((D.tup []), x53)) fun x53 =>
(bn (mp (mp (loadO true 3 x52.1 x53.2) fun x54 => (x54, x53.2)) fun x54 => x54.1) fun x54 =>
(bn (mp (mp (loadO true 3 x20.1 x53.2) fun x55 => (x55, x53.2)) fun x55 => x55.1) fun x55 =>
(bn (mp (mp (loadO true 3 x1.1 x53.2) fun x56 => (x56, x53.2)) fun x56 => x56.1) fun x56 =>
(bn (call 17 [(n64 6), x56] x53.2) fun x57 =>
(Res.elim x57.1 (fun x58 => (bn (mp (mp (Option.map (D.sl Own.full 3) (sliceParts 3 true 0 [(0, x55), (1, x58)])) fun x59 => (x59, ([] : St))) fun x59 => x59.1) fun x59 =>
(bn (call 19 [(n64 4), x59] x57.2) fun x60 =>
(Res.elim x60.1 (fun x61 => (bn (call 17 [(n64 6), x61] x60.2) fun x62 =>
(Res.elim x62.1 (fun x63 => (bn (call 18 [x54, x63, x3] x62.2) fun x64 =>
(Res.elim x64.1 (fun x65 => (bn (guardB true x65) fun x66 =>
(bn (ifb x66 (call 12 [] x64.2)
(some ((Res.ret (D.tup [])), x64.2))) fun x67 =>
(Res.elim x67.1 (fun x68 => (bn (mp (D.bool? x65) fun x69 => (ifb x69 x68
(D.bool false))) fun x69 =>
(@Mode.gs M (Res × St) ((sameAd x52.1 x53.2 x57.2) ∧ ((sameAd x52.1 x57.2 x60.2) ∧ ((sameAd x52.1 x60.2 x62.2) ∧ ((sameAd x20.1 x53.2 x57.2) ∧ True)))) (Bool.and (sameAdB x52.1 x53.2 x57.2) (Bool.and (sameAdB x52.1 x57.2 x60.2) (Bool.and (sameAdB x52.1 x60.2 x62.2) (Bool.and (sameAdB x20.1 x53.2 x57.2) true)))) (leaveM M RetK.can A (Res.ret x69) x67.2)))) (fun x68 => (@Mode.gs M (Res × St) ((sameAd x52.1 x53.2 x57.2) ∧ ((sameAd x52.1 x57.2 x60.2) ∧ ((sameAd x52.1 x60.2 x62.2) ∧ ((sameAd x20.1 x53.2 x57.2) ∧ True)))) (Bool.and (sameAdB x52.1 x53.2 x57.2) (Bool.and (sameAdB x52.1 x57.2 x60.2) (Bool.and (sameAdB x52.1 x60.2 x62.2) (Bool.and (sameAdB x20.1 x53.2 x57.2) true)))) (leaveM M RetK.can A (Res.pan x68) x67.2))))))) (fun x65 => (@Mode.gs M (Res × St) ((sameAd x52.1 x53.2 x57.2) ∧ ((sameAd x52.1 x57.2 x60.2) ∧ ((sameAd x52.1 x60.2 x62.2) ∧ ((sameAd x20.1 x53.2 x57.2) ∧ True)))) (Bool.and (sameAdB x52.1 x53.2 x57.2) (Bool.and (sameAdB x52.1 x57.2 x60.2) (Bool.and (sameAdB x52.1 x60.2 x62.2) (Bool.and (sameAdB x20.1 x53.2 x57.2) true)))) (leaveM M RetK.can A (Res.pan x65) x64.2)))))) (fun x63 => (@Mode.gs M (Res × St) ((sameAd x52.1 x53.2 x57.2) ∧ ((sameAd x52.1 x57.2 x60.2) ∧ ((sameAd x52.1 x60.2 x62.2) ∧ ((sameAd x20.1 x53.2 x57.2) ∧ True)))) (Bool.and (sameAdB x52.1 x53.2 x57.2) (Bool.and (sameAdB x52.1 x57.2 x60.2) (Bool.and (sameAdB x52.1 x60.2 x62.2) (Bool.and (sameAdB x20.1 x53.2 x57.2) true)))) (leaveM M RetK.can A (Res.pan x63) x62.2)))))) (fun x61 => (@Mode.gs M (Res × St) ((sameAd x52.1 x53.2 x57.2) ∧ ((sameAd x52.1 x57.2 x60.2) ∧ (True ∧ ((sameAd x20.1 x53.2 x57.2) ∧ True)))) (Bool.and (sameAdB x52.1 x53.2 x57.2) (Bool.and (sameAdB x52.1 x57.2 x60.2) (Bool.and true (Bool.and (sameAdB x20.1 x53.2 x57.2) true)))) (leaveM M RetK.can A (Res.pan x61) x60.2))))))) (fun x58 => (@Mode.gs M (Res × St) ((sameAd x52.1 x53.2 x57.2) ∧ (True ∧ (True ∧ ((sameAd x20.1 x53.2 x57.2) ∧ True)))) (Bool.and (sameAdB x52.1 x53.2 x57.2) (Bool.and true (Bool.and true (Bool.and (sameAdB x20.1 x53.2 x57.2) true)))) (leaveM M RetK.can A (Res.pan x58) x57.2))))))))))) (fun x51 => (leaveM M RetK.can A (Res.pan x51) x50.2))))) (fun x49 => (leaveM M RetK.can A (Res.pan x49) x48.2)))))))))))) (fun x42 => (@Mode.gs M (Res × St) ((sameAd x0.1 x30.2 x35.2) ∧ True) (Bool.and (sameAdB x0.1 x30.2 x35.2) true) (leaveM M RetK.can A (Res.pan x42) x41.2)))))) (fun x40 => (@Mode.gs M (Res × St) ((sameAd x0.1 x30.2 x35.2) ∧ True) (Bool.and (sameAdB x0.1 x30.2 x35.2) true) (leaveM M RetK.can A (Res.pan x40) x39.2)))))))) (fun x36 => none))))))))) (fun x31 => (@Mode.gs M (Res × St) ((sameAd x0.1 x21.2 x23.2) ∧ ((sameAd x20.1 x21.2 x23.2) ∧ True)) (Bool.and (sameAdB x0.1 x21.2 x23.2) (Bool.and (sameAdB x20.1 x21.2 x23.2) true)) (leaveM M RetK.can A (Res.pan x31) x30.2)))))) (fun x29 => (@Mode.gs M (Res × St) ((sameAd x0.1 x21.2 x23.2) ∧ ((sameAd x20.1 x21.2 x23.2) ∧ True)) (Bool.and (sameAdB x0.1 x21.2 x23.2) (Bool.and (sameAdB x20.1 x21.2 x23.2) true)) (leaveM M RetK.can A (Res.pan x29) x28.2))))))))) (fun x24 => none))))))) (fun x19 => (leaveM M RetK.can A (Res.pan x19) x18.2))))))))))) (fun x12 => (leaveM M RetK.can A (Res.pan x12) x11.2))))))))) (fun x6 => (leaveM M RetK.can A (Res.pan x6) x5.2)))))) (fun x3 => (leaveM M RetK.can A (Res.pan x3) x2.2))))))
theorem b5 (M : Mode) (call : CallT) (dcall : DcallT) (a0 a1 a2 : D) (A : St) : bodyN M Tryd.prog rxHint kk call dcall 5 [a0, a1, a2] A = f5 M call dcall a0.canon a1.canon a2.canon A := by
  kernel_rfl
theorem r5 (a0 a1 a2 : D) (A : St) : Run Tryd.prog rxA 5 [a0, a1, a2] A = f5 mL (Run Tryd.prog rxA) (Dcall Tryd.prog rxA) a0.canon a1.canon a2.canon A := (Run_eqN Tryd.prog rxA kk rfl rfl _ _).trans (b5 mL (Run Tryd.prog rxA) (Dcall Tryd.prog rxA) a0 a1 a2 A)
end Go.Vm.Rx
