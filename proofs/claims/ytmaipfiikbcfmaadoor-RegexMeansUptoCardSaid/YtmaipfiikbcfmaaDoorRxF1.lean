/- Written by a program: what the abstract run of each function comes to, one definition a function, and its equation. -/
import Derived.Test.YtmaipfiikbcfmaaDoorRxH
import Derived.KernelRfl
set_option linter.all false
namespace Go.Vm.Rx
open Go.Proofs
set_option maxRecDepth 100000
set_option linter.unusedVariables false
set_option maxHeartbeats 0
noncomputable def f9 (M : Mode) (call : CallT) (dcall : DcallT) (a0 : D) (A : St) : (Option (Res × St)) :=
(bn (allocO [(n64 0), (D.str []), (D.sl Own.full 0 [])] A) fun x0 =>
(bn (call 26 [a0] x0.2) fun x1 =>
(Res.elim x1.1 (fun x2 => (bn (extractD x2 0) fun x3 =>
(bn (extractD x2 1) fun x4 =>
(bn (extractD x2 2) fun x5 =>
(bn (extractD x2 3) fun x6 =>
(bn (binO .neq 3 true x6 (n64 0)) fun x7 =>
(bn (D.bool? x7) fun x8 =>
(ifb x8 (bn (mp (storeO true 3 x0.1 (D.agg [(n64 0), (D.str []), (D.sl Own.full 0 [])]) x1.2) fun x9 => ((D.tup []), x9)) fun x9 =>
(bn (mp (Option.map packD (Option.bind (loadO true 3 x0.1 x9.2) (fun x10 => (some [x10, x4, x5, x6])))) fun x10 => ((Res.ret x10), x9.2)) fun x10 =>
(leaveM M RetK.can A x10.1 x10.2)))
(bn (call 27 [x3] x1.2) fun x9 =>
(Res.elim x9.1 (fun x10 => (bn (call 13 [x10] x9.2) fun x11 =>
(Res.elim x11.1 (fun x12 => (bn (extractD x12 0) fun x13 =>
(bn (extractD x12 1) fun x14 =>
(bn (extractD x12 2) fun x15 =>
(bn (allocO [(n64 0), (D.str []), (D.sl Own.full 0 [])] x11.2) fun x16 =>
(bn (mp (storeO true 3 x16.1 x13 x16.2) fun x17 => ((D.tup []), x17)) fun x17 =>
(bn (binO .eql 3 true x15 (n64 0)) fun x18 =>
(bn (D.bool? x18) fun x19 =>
(ifb x19 (bn (mp (loadO true 3 x16.1 x17.2) fun x20 => (x20, x17.2)) fun x20 =>
(bn (mp (storeO true 3 x0.1 x20.1 x20.2) fun x21 => ((D.tup []), x21)) fun x21 =>
(bn (mp (Option.map packD (Option.bind (loadO true 3 x0.1 x21.2) (fun x22 => (some [x22, (n64 0), (n64 0), x15])))) fun x22 => ((Res.ret x22), x21.2)) fun x22 =>
(leaveM M RetK.can A x22.1 x22.2))))
(bn (binO .eql 3 true x15 (n64 3)) fun x20 =>
(bn (guardB false x20) fun x21 =>
(bn (ifb x21 (some x15)
(some (D.tup []))) fun x22 =>
(bn (guardB false x20) fun x23 =>
(bn (ifb x23 (binO .eql 3 true x22 (n64 91))
(some (D.tup []))) fun x24 =>
(bn (guardB false x20) fun x25 =>
(bn (ifb x25 (some x24)
(some (D.tup []))) fun x26 =>
(bn (guardB true x26) fun x27 =>
(bn (ifb x27 (some x14)
(some (D.tup []))) fun x28 =>
(bn (guardB true x26) fun x29 =>
(bn (ifb x29 (binO .eql 3 true x28 (n64 0))
(some (D.tup []))) fun x30 =>
(bn (guardB false x20) fun x31 =>
(bn (ifb x31 (mp (D.bool? x26) fun x32 => (ifb x32 x30
(D.bool false)))
(some (D.tup []))) fun x32 =>
(bn (mp (D.bool? x20) fun x33 => (ifb x33 (D.bool true)
 x32)) fun x33 =>
(bn (D.bool? x33) fun x34 =>
(ifb x34 (bn (mp (storeO true 3 x0.1 (D.agg [(n64 0), (D.str []), (D.sl Own.full 0 [])]) x17.2) fun x35 => ((D.tup []), x35)) fun x35 =>
(bn (mp (Option.map packD (Option.bind (loadO true 3 x0.1 x35.2) (fun x36 => (some [x36, (n64 0), (n64 0), x15])))) fun x36 => ((Res.ret x36), x35.2)) fun x36 =>
(leaveM M RetK.can A x36.1 x36.2)))
(bn (lenSlO x10) fun x35 =>
(bn (binO .eql 3 true x35 (n64 0)) fun x36 =>
(bn (D.bool? x36) fun x37 =>
(ifb x37 (bn (mp (storeO true 3 x0.1 (D.agg [(n64 0), (D.str []), (D.sl Own.full 0 [])]) x17.2) fun x38 => ((D.tup []), x38)) fun x38 =>
(bn (mp (Option.map packD (Option.bind (loadO true 3 x0.1 x38.2) (fun x39 => (some [x39, (n64 1), (n64 1), x15])))) fun x39 => ((Res.ret x39), x38.2)) fun x39 =>
(leaveM M RetK.can A x39.1 x39.2)))
(bn (lenSlO x10) fun x38 =>
(bn (binO .lss 3 false x14 x38) fun x39 =>
(bn (D.bool? x39) fun x40 =>
(ifb x40 (bn (indexAddrO 3 true x10 x14) fun x41 =>
(bn (fieldAddrO 1 x41) fun x42 =>
(bn (mp (mp (loadO false 1 x42 x17.2) fun x43 => (x43, x17.2)) fun x43 => x43.1) fun x43 =>
(bn (indexAddrO 3 true x10 x14) fun x44 =>
(bn (fieldAddrO 2 x44) fun x45 =>
(bn (mp (mp (loadO false 1 x45 x17.2) fun x46 => (x46, x17.2)) fun x46 => x46.1) fun x46 =>
(bn (mp (storeO true 3 x0.1 (D.agg [(n64 0), (D.str []), (D.sl Own.full 0 [])]) x17.2) fun x47 => ((D.tup []), x47)) fun x47 =>
(@Mode.gs M (Res × St) ((sameAd x42 x17.2 x47.2) ∧ ((sameAd x45 x17.2 x47.2) ∧ True)) (Bool.and (sameAdB x42 x17.2 x47.2) (Bool.and (sameAdB x45 x17.2 x47.2) true)) (bn (mp (Option.map packD (Option.bind (loadO true 3 x0.1 x47.2) (fun x48 => (some [x48, x43, x46, x15])))) fun x48 => ((Res.ret x48), x47.2)) fun x48 =>
(leaveM M RetK.can A x48.1 x48.2))))))))))
(bn (lenSlO x10) fun x41 =>
(bn (binO .sub 3 true x41 (n64 1)) fun x42 =>
(bn (indexAddrO 3 true x10 x42) fun x43 =>
(bn (mp (loadO true 3 x43 x17.2) fun x44 => (x44, x17.2)) fun x44 =>
(bn (allocO [(D.str []), (n64 0), (n64 0)] x44.2) fun x45 =>
(bn (mp (storeO true 3 x45.1 x44.1 x45.2) fun x46 => ((D.tup []), x46)) fun x46 =>
(bn (fieldAddrO 1 x45.1) fun x47 =>
(bn (mp (mp (loadO false 1 x47 x46.2) fun x48 => (x48, x46.2)) fun x48 => x48.1) fun x48 =>
(bn (fieldAddrO 2 x45.1) fun x49 =>
(bn (mp (mp (loadO false 1 x49 x46.2) fun x50 => (x50, x46.2)) fun x50 => x50.1) fun x50 =>
(bn (fieldAddrO 0 x45.1) fun x51 =>
(bn (mp (mp (loadO false 1 x51 x46.2) fun x52 => (x52, x46.2)) fun x52 => x52.1) fun x52 =>
(bn (lenStrO x52) fun x53 =>
(bn (binO .add 3 false x50 x53) fun x54 =>
(bn (mp (storeO true 3 x0.1 (D.agg [(n64 0), (D.str []), (D.sl Own.full 0 [])]) x46.2) fun x55 => ((D.tup []), x55)) fun x55 =>
(@Mode.gs M (Res × St) ((sameAd x47 x46.2 x55.2) ∧ ((sameAd x49 x46.2 x55.2) ∧ ((sameAd x51 x46.2 x55.2) ∧ True))) (Bool.and (sameAdB x47 x46.2 x55.2) (Bool.and (sameAdB x49 x46.2 x55.2) (Bool.and (sameAdB x51 x46.2 x55.2) true))) (bn (mp (Option.map packD (Option.bind (loadO true 3 x0.1 x55.2) (fun x56 => (some [x56, x48, x54, x15])))) fun x56 => ((Res.ret x56), x55.2)) fun x56 =>
(leaveM M RetK.can A x56.1 x56.2))))))))))))))))))))))))))))))))))))))))))))))))))) (fun x12 => (leaveM M RetK.can A (Res.pan x12) x11.2))))) (fun x10 => (leaveM M RetK.can A (Res.pan x10) x9.2)))))))))))) (fun x2 => (leaveM M RetK.can A (Res.pan x2) x1.2)))))
theorem b9 (M : Mode) (call : CallT) (dcall : DcallT) (a0 : D) (A : St) : bodyN M Tryd.prog rxHint kk call dcall 9 [a0] A = f9 M call dcall a0.canon A := by
  kernel_rfl
noncomputable def f10_s0 (M : Mode) (call : CallT) (dcall : DcallT) (A : St) (e : Env) (Av5 : St) : (Option ((Env × St) ⊕ (Res × St))) :=
(bn (lenSlO (e.g 6)) fun x0 =>
(bn (binO .lss 3 false (e.g 11) x0) fun x1 =>
(bn (D.bool? x1) fun x2 =>
(ifb x2 (bn (indexAddrO 1 false (e.g 6) (e.g 11)) fun x3 =>
(bn (mp (loadO false 1 x3 Av5) fun x4 => (x4, Av5)) fun x4 =>
(bn (appendO 3 32 (e.g 10) x4.1 x4.2) fun x5 =>
(bn (binO .add 3 true (e.g 11) (n64 1)) fun x6 =>
(some (Sum.inl ((Env.mk (sp [(2, (e.g 2)), (3, (e.g 6)), (3, x5.1), (0, x6), (13, (e.g 25))] 77) (e).df), x5.2)))))))
(Option.map (Sum.inr ) (bn (call 14 [(e.g 10)] Av5) fun x3 =>
(Res.elim x3.1 (fun x4 => (bn (extractD x4 0) fun x5 =>
(bn (extractD x4 1) fun x6 =>
(bn (extractD x4 2) fun x7 =>
(bn (allocO [(n64 0), (D.str []), (D.sl Own.full 0 [])] x3.2) fun x8 =>
(bn (mp (storeO true 3 x8.1 x5 x8.2) fun x9 => ((D.tup []), x9)) fun x9 =>
(bn (binO .eql 3 true x7 (n64 0)) fun x10 =>
(bn (D.bool? x10) fun x11 =>
(ifb x11 (bn (mp (loadO true 3 x8.1 x9.2) fun x12 => (x12, x9.2)) fun x12 =>
(bn (mp (storeO true 3 (e.g 2) x12.1 x12.2) fun x13 => ((D.tup []), x13)) fun x13 =>
(bn (leavesD dcall (fun (x14 : St) => (Option.map packD (Option.bind (loadO true 3 (e.g 2) x14) (fun x15 => (some [x15, (n64 0), (n64 0), (n64 0)]))))) (e).df none x13.2) fun x14 =>
(leaveM M RetK.can A x14.1 x14.2))))
(bn (binO .eql 3 true x7 (n64 3)) fun x12 =>
(bn (guardB false x12) fun x13 =>
(bn (ifb x13 (some x7)
(some (D.tup []))) fun x14 =>
(bn (guardB false x12) fun x15 =>
(bn (ifb x15 (binO .eql 3 true x14 (n64 91))
(some (D.tup []))) fun x16 =>
(bn (guardB false x12) fun x17 =>
(bn (ifb x17 (some x16)
(some (D.tup []))) fun x18 =>
(bn (guardB true x18) fun x19 =>
(bn (ifb x19 (some x6)
(some (D.tup []))) fun x20 =>
(bn (guardB true x18) fun x21 =>
(bn (ifb x21 (binO .eql 3 true x20 (n64 0))
(some (D.tup []))) fun x22 =>
(bn (guardB false x12) fun x23 =>
(bn (ifb x23 (mp (D.bool? x18) fun x24 => (ifb x24 x22
(D.bool false)))
(some (D.tup []))) fun x24 =>
(bn (mp (D.bool? x12) fun x25 => (ifb x25 (D.bool true)
 x24)) fun x25 =>
(bn (D.bool? x25) fun x26 =>
(ifb x26 (bn (mp (loadO true 3 x8.1 x9.2) fun x27 => (x27, x9.2)) fun x27 =>
(bn (mp (storeO true 3 (e.g 2) x27.1 x27.2) fun x28 => ((D.tup []), x28)) fun x28 =>
(bn (leavesD dcall (fun (x29 : St) => (Option.map packD (Option.bind (loadO true 3 (e.g 2) x29) (fun x30 => (some [x30, (n64 0), (n64 0), x7]))))) (e).df none x28.2) fun x29 =>
(leaveM M RetK.can A x29.1 x29.2))))
(bn (lenSlO (e.g 10)) fun x27 =>
(bn (binO .eql 3 true x27 (n64 0)) fun x28 =>
(bn (D.bool? x28) fun x29 =>
(ifb x29 (bn (mp (loadO true 3 x8.1 x9.2) fun x30 => (x30, x9.2)) fun x30 =>
(bn (mp (storeO true 3 (e.g 2) x30.1 x30.2) fun x31 => ((D.tup []), x31)) fun x31 =>
(bn (leavesD dcall (fun (x32 : St) => (Option.map packD (Option.bind (loadO true 3 (e.g 2) x32) (fun x33 => (some [x33, (n64 1), (n64 1), x7]))))) (e).df none x31.2) fun x32 =>
(leaveM M RetK.can A x32.1 x32.2))))
(bn (lenSlO (e.g 10)) fun x30 =>
(bn (binO .lss 3 false x6 x30) fun x31 =>
(bn (D.bool? x31) fun x32 =>
(ifb x32 (bn (mp (mp (loadO true 3 x8.1 x9.2) fun x33 => (x33, x9.2)) fun x33 => x33.1) fun x33 =>
(bn (indexAddrO 3 true (e.g 10) x6) fun x34 =>
(bn (fieldAddrO 1 x34) fun x35 =>
(bn (mp (mp (loadO false 1 x35 x9.2) fun x36 => (x36, x9.2)) fun x36 => x36.1) fun x36 =>
(bn (indexAddrO 3 true (e.g 10) x6) fun x37 =>
(bn (fieldAddrO 2 x37) fun x38 =>
(bn (mp (mp (loadO false 1 x38 x9.2) fun x39 => (x39, x9.2)) fun x39 => x39.1) fun x39 =>
(bn (mp (storeO true 3 (e.g 2) x33 x9.2) fun x40 => ((D.tup []), x40)) fun x40 =>
(@Mode.gs M (Res × St) ((sameAd x35 x9.2 x40.2) ∧ ((sameAd x38 x9.2 x40.2) ∧ True)) (Bool.and (sameAdB x35 x9.2 x40.2) (Bool.and (sameAdB x38 x9.2 x40.2) true)) (bn (leavesD dcall (fun (x41 : St) => (Option.map packD (Option.bind (loadO true 3 (e.g 2) x41) (fun x42 => (some [x42, x36, x39, x7]))))) (e).df none x40.2) fun x41 =>
(leaveM M RetK.can A x41.1 x41.2)))))))))))
(bn (lenSlO (e.g 10)) fun x33 =>
(bn (binO .sub 3 true x33 (n64 1)) fun x34 =>
(bn (indexAddrO 3 true (e.g 10) x34) fun x35 =>
(bn (mp (loadO true 3 x35 x9.2) fun x36 => (x36, x9.2)) fun x36 =>
(bn (allocO [(D.str []), (n64 0), (n64 0)] x36.2) fun x37 =>
(bn (mp (storeO true 3 x37.1 x36.1 x37.2) fun x38 => ((D.tup []), x38)) fun x38 =>
(bn (mp (mp (loadO true 3 x8.1 x38.2) fun x39 => (x39, x38.2)) fun x39 => x39.1) fun x39 =>
(bn (fieldAddrO 1 x37.1) fun x40 =>
(bn (mp (mp (loadO false 1 x40 x38.2) fun x41 => (x41, x38.2)) fun x41 => x41.1) fun x41 =>
(bn (fieldAddrO 2 x37.1) fun x42 =>
(bn (mp (mp (loadO false 1 x42 x38.2) fun x43 => (x43, x38.2)) fun x43 => x43.1) fun x43 =>
(bn (fieldAddrO 0 x37.1) fun x44 =>
(bn (mp (mp (loadO false 1 x44 x38.2) fun x45 => (x45, x38.2)) fun x45 => x45.1) fun x45 =>
(bn (lenStrO x45) fun x46 =>
(bn (binO .add 3 false x43 x46) fun x47 =>
(bn (mp (storeO true 3 (e.g 2) x39 x38.2) fun x48 => ((D.tup []), x48)) fun x48 =>
(@Mode.gs M (Res × St) ((sameAd x40 x38.2 x48.2) ∧ ((sameAd x42 x38.2 x48.2) ∧ ((sameAd x44 x38.2 x48.2) ∧ True))) (Bool.and (sameAdB x40 x38.2 x48.2) (Bool.and (sameAdB x42 x38.2 x48.2) (Bool.and (sameAdB x44 x38.2 x48.2) true))) (bn (leavesD dcall (fun (x49 : St) => (Option.map packD (Option.bind (loadO true 3 (e.g 2) x49) (fun x50 => (some [x50, x41, x47, x7]))))) (e).df none x48.2) fun x49 =>
(leaveM M RetK.can A x49.1 x49.2)))))))))))))))))))))))))))))))))))))))))))))))))))) (fun x4 => (bn (leavesD dcall (fun (x5 : St) => (Option.map packD (Option.bind (loadO true 3 (e.g 2) x5) (fun x6 => (some [x6, (e.g 3), (e.g 4), (e.g 5)]))))) (e).df (some x4) x3.2) fun x5 =>
(leaveM M RetK.can A x5.1 x5.2))))))))))
noncomputable def f10 (M : Mode) (call : CallT) (dcall : DcallT) (a0 : D) (A : St) : (Option (Res × St)) :=
(bn (allocO [(n64 0), (D.str []), (D.sl Own.full 0 [])] A) fun x0 =>
(bn (call 28 [a0] x0.2) fun x1 =>
(Res.elim x1.1 (fun x2 => (bn (extractD x2 0) fun x3 =>
(bn (extractD x2 1) fun x4 =>
(bn (extractD x2 2) fun x5 =>
(bn (extractD x2 3) fun x6 =>
(bn (binO .neq 3 true x6 (n64 0)) fun x7 =>
(bn (D.bool? x7) fun x8 =>
(ifb x8 (bn (mp (storeO true 3 x0.1 (D.agg [(n64 0), (D.str []), (D.sl Own.full 0 [])]) x1.2) fun x9 => ((D.tup []), x9)) fun x9 =>
(bn (mp (Option.map packD (Option.bind (loadO true 3 x0.1 x9.2) (fun x10 => (some [x10, x4, x5, x6])))) fun x10 => ((Res.ret x10), x9.2)) fun x10 =>
(leaveM M RetK.can A x10.1 x10.2)))
(@Mode.it M (Res × St) (f10_s0 M call dcall A) (Env.mk (sp [(2, x0.1), (3, x3), (3, (D.sl Own.full 0 [])), (0, (n64 0)), (13, (D.tup []))] 77) []) x1.2))))))))) (fun x2 => (leaveM M RetK.can A (Res.pan x2) x1.2)))))
theorem b10 (M : Mode) (call : CallT) (dcall : DcallT) (a0 : D) (A : St) : bodyN M Tryd.prog rxHint kk call dcall 10 [a0] A = f10 M call dcall a0.canon A := by
  kernel_rfl
noncomputable def f11_s0 (M : Mode) (call : CallT) (dcall : DcallT) (A : St) (e : Env) (Av5 : St) : (Option ((Env × St) ⊕ (Res × St))) :=
(bn (fieldAddrO 2 (e.g 2)) fun x0 =>
(bn (mp (loadO false 1 x0 Av5) fun x1 => (x1, Av5)) fun x1 =>
(bn (lenSlO x1.1) fun x2 =>
(bn (binO .lss 3 false (e.g 5) x2) fun x3 =>
(bn (D.bool? x3) fun x4 =>
(ifb x4 (bn (fieldAddrO 2 (e.g 2)) fun x5 =>
(bn (mp (mp (loadO false 1 x5 x1.2) fun x6 => (x6, x1.2)) fun x6 => x6.1) fun x6 =>
(bn (indexAddrO 3 true x6 (e.g 5)) fun x7 =>
(bn (mp (mp (loadO true 3 x7 x1.2) fun x8 => (x8, x1.2)) fun x8 => x8.1) fun x8 =>
(bn (fieldAddrO 2 (e.g 3)) fun x9 =>
(bn (mp (mp (loadO false 1 x9 x1.2) fun x10 => (x10, x1.2)) fun x10 => x10.1) fun x10 =>
(bn (indexAddrO 3 true x10 (e.g 5)) fun x11 =>
(bn (mp (mp (loadO true 3 x11 x1.2) fun x12 => (x12, x1.2)) fun x12 => x12.1) fun x12 =>
(bn (call 11 [x8, x12] x1.2) fun x13 =>
(Res.elim x13.1 (fun x14 => (bn (unD UnOp.not x14) fun x15 =>
(@Mode.gs M ((Env × St) ⊕ (Res × St)) True true (bn (D.bool? x15) fun x16 =>
(ifb x16 (Option.map (Sum.inr ) (bn (leavesD dcall (fun (x17 : St) => (some (D.bool false))) (e).df none x13.2) fun x17 =>
(leaveM M RetK.can A x17.1 x17.2)))
(bn (binO .add 3 true (e.g 5) (n64 1)) fun x17 =>
(@Mode.gk M ((Env × St) ⊕ (Res × St)) Av5 x13.2 (some (Sum.inl ((Env.mk (sp [(2, (D.shut (List.length Av5) (e.g 2))), (0, (D.shut (List.length Av5) (e.g 3))), (1, (D.shut (List.length Av5) x17))] 40) (List.map (fun (x18 : (D × (List D))) => ((D.shut (List.length Av5) x18.1), (D.shutL (List.length Av5) x18.2))) (e).df)), (List.take (List.length Av5) x13.2))))))))))) (fun x14 => (@Mode.gs M ((Env × St) ⊕ (Res × St)) True true (Option.map (Sum.inr ) (bn (leavesD dcall (fun (x15 : St) => (some (e.g 4))) (e).df (some x14) x13.2) fun x15 =>
(leaveM M RetK.can A x15.1 x15.2)))))))))))))))
(Option.map (Sum.inr ) (bn (leavesD dcall (fun (x5 : St) => (some (D.bool true))) (e).df none x1.2) fun x5 =>
(leaveM M RetK.can A x5.1 x5.2)))))))))
noncomputable def f11 (M : Mode) (call : CallT) (dcall : DcallT) (a0 : D) (a1 : D) (A : St) : (Option (Res × St)) :=
(bn (boxO true a0 A) fun x0 =>
(bn (boxO true a1 x0.2) fun x1 =>
(bn (fieldAddrO 0 x0.1) fun x2 =>
(bn (mp (loadO false 1 x2 x1.2) fun x3 => (x3, x1.2)) fun x3 =>
(bn (fieldAddrO 0 x1.1) fun x4 =>
(bn (mp (loadO false 1 x4 x3.2) fun x5 => (x5, x3.2)) fun x5 =>
(bn (binO .neq 3 false x3.1 x5.1) fun x6 =>
(bn (guardB false x6) fun x7 =>
(bn (ifb x7 (fieldAddrO 1 x0.1)
(some (D.tup []))) fun x8 =>
(bn (guardB false x6) fun x9 =>
(bn (ifb x9 (mp (loadO false 1 x8 x5.2) fun x10 => (x10, x5.2))
(some ((D.tup []), x5.2))) fun x10 =>
(bn (guardB false x6) fun x11 =>
(bn (ifb x11 (fieldAddrO 1 x1.1)
(some (D.tup []))) fun x12 =>
(bn (guardB false x6) fun x13 =>
(bn (ifb x13 (mp (loadO false 1 x12 x10.2) fun x14 => (x14, x10.2))
(some ((D.tup []), x10.2))) fun x14 =>
(bn (guardB false x6) fun x15 =>
(bn (ifb x15 (binO .neq 3 false x10.1 x14.1)
(some (D.tup []))) fun x16 =>
(bn (mp (D.bool? x6) fun x17 => (ifb x17 (D.bool true)
 x16)) fun x17 =>
(bn (guardB false x17) fun x18 =>
(bn (ifb x18 (fieldAddrO 2 x0.1)
(some (D.tup []))) fun x19 =>
(bn (guardB false x17) fun x20 =>
(bn (ifb x20 (mp (loadO false 1 x19 x14.2) fun x21 => (x21, x14.2))
(some ((D.tup []), x14.2))) fun x21 =>
(bn (guardB false x17) fun x22 =>
(bn (ifb x22 (lenSlO x21.1)
(some (D.tup []))) fun x23 =>
(bn (guardB false x17) fun x24 =>
(bn (ifb x24 (fieldAddrO 2 x1.1)
(some (D.tup []))) fun x25 =>
(bn (guardB false x17) fun x26 =>
(bn (ifb x26 (mp (loadO false 1 x25 x21.2) fun x27 => (x27, x21.2))
(some ((D.tup []), x21.2))) fun x27 =>
(bn (guardB false x17) fun x28 =>
(bn (ifb x28 (lenSlO x27.1)
(some (D.tup []))) fun x29 =>
(bn (guardB false x17) fun x30 =>
(bn (ifb x30 (binO .neq 3 false x23 x29)
(some (D.tup []))) fun x31 =>
(bn (mp (D.bool? x17) fun x32 => (ifb x32 (D.bool true)
 x31)) fun x32 =>
(bn (D.bool? x32) fun x33 =>
(ifb x33 (leaveM M RetK.can A (Res.ret (D.bool false)) x27.2)
(@Mode.it M (Res × St) (f11_s0 M call dcall A) (Env.mk (sp [(2, x0.1), (0, x1.1), (1, (n64 0))] 40) []) x27.2))))))))))))))))))))))))))))))))))))
theorem b11 (M : Mode) (call : CallT) (dcall : DcallT) (a0 a1 : D) (A : St) : bodyN M Tryd.prog rxHint kk call dcall 11 [a0, a1] A = f11 M call dcall a0.canon a1.canon A := by
  kernel_rfl
noncomputable def f12 (M : Mode) (call : CallT) (dcall : DcallT) (A : St) : (Option (Res × St)) :=
(bn (call 9 [(D.str [(97 : UInt8), (46 : UInt8), (42 : UInt8), (36 : UInt8), (99 : UInt8), (111 : UInt8), (114 : UInt8), (101 : UInt8), (40 : UInt8), (98 : UInt8), (124 : UInt8), (99 : UInt8), (41 : UInt8), (43 : UInt8)])] A) fun x0 =>
(Res.elim x0.1 (fun x1 => (bn (extractD x1 0) fun x2 =>
(bn (extractD x1 1) fun x3 =>
(bn (extractD x1 2) fun x4 =>
(bn (extractD x1 3) fun x5 =>
(bn (allocO [(n64 0), (D.str []), (D.sl Own.full 0 [])] x0.2) fun x6 =>
(bn (mp (storeO true 3 x6.1 x2 x6.2) fun x7 => ((D.tup []), x7)) fun x7 =>
(bn (binO .neq 3 true x5 (n64 0)) fun x8 =>
(bn (guardB false x8) fun x9 =>
(bn (ifb x9 (fieldAddrO 2 x6.1)
(some (D.tup []))) fun x10 =>
(bn (guardB false x8) fun x11 =>
(bn (ifb x11 (mp (loadO false 1 x10 x7.2) fun x12 => (x12, x7.2))
(some ((D.tup []), x7.2))) fun x12 =>
(bn (guardB false x8) fun x13 =>
(bn (ifb x13 (lenSlO x12.1)
(some (D.tup []))) fun x14 =>
(bn (guardB false x8) fun x15 =>
(bn (ifb x15 (binO .neq 3 true x14 (n64 4))
(some (D.tup []))) fun x16 =>
(bn (mp (D.bool? x8) fun x17 => (ifb x17 (D.bool true)
 x16)) fun x17 =>
(bn (D.bool? x17) fun x18 =>
(ifb x18 (leaveM M RetK.can A (Res.ret (D.bool false)) x12.2)
(bn (mp (loadO true 3 x6.1 x12.2) fun x19 => (x19, x12.2)) fun x19 =>
(bn (call 20 [x19.1] x19.2) fun x20 =>
(Res.elim x20.1 (fun x21 => (bn (extractD x21 0) fun x22 =>
(bn (extractD x21 1) fun x23 =>
(bn (mp (loadO true 3 x6.1 x20.2) fun x24 => (x24, x20.2)) fun x24 =>
(bn (mp (Option.map (D.sl Own.full 1) (sliceParts 1 false 0 [(0, (D.str [(99 : UInt8), (111 : UInt8), (114 : UInt8), (101 : UInt8)]))])) fun x25 => (x25, x24.2)) fun x25 =>
(bn (Option.map D.agg (Option.bind (layCells false 1 0 [(D.str []), (D.sl Own.full 0 [])] (D.str [(113 : UInt8)])) (fun (x26 : (List D)) => (Option.bind (layCells false 1 1 x26 x25.1) (fun (x27 : (List D)) => (some x27)))))) fun x26 =>
(bn (mp (Option.map (D.sl Own.full 2) (sliceParts 2 true 0 [(0, (D.agg [(D.str [(97 : UInt8)]), (D.sl Own.full 0 [])])), (1, x26), (2, (D.agg [(D.str [(99 : UInt8)]), (D.sl Own.full 0 [])]))])) fun x27 => (x27, x25.2)) fun x27 =>
(bn (call 29 [x24.1, x27.1] x27.2) fun x28 =>
(Res.elim x28.1 (fun x29 => (bn (extractD x29 0) fun x30 =>
(bn (extractD x29 1) fun x31 =>
(bn (mp (loadO true 3 x6.1 x28.2) fun x32 => (x32, x28.2)) fun x32 =>
(bn (mp (Option.map (D.sl Own.full 2) (sliceParts 2 true 0 [(0, (D.agg [(D.str [(97 : UInt8)]), (D.sl Own.full 0 [])])), (1, (D.agg [(D.str [(99 : UInt8)]), (D.sl Own.full 0 [])]))])) fun x33 => (x33, x32.2)) fun x33 =>
(bn (call 29 [x32.1, x33.1] x33.2) fun x34 =>
(Res.elim x34.1 (fun x35 => (bn (extractD x35 0) fun x36 =>
(bn (extractD x35 1) fun x37 =>
(bn (binO .eql 3 true x23 (n64 0)) fun x38 =>
(bn (guardB true x38) fun x39 =>
(bn (ifb x39 (some x31)
(some (D.tup []))) fun x40 =>
(bn (guardB true x38) fun x41 =>
(bn (ifb x41 (binO .eql 3 true x40 (n64 0))
(some (D.tup []))) fun x42 =>
(bn (mp (D.bool? x38) fun x43 => (ifb x43 x42
(D.bool false))) fun x43 =>
(bn (guardB true x43) fun x44 =>
(bn (ifb x44 (some x37)
(some (D.tup []))) fun x45 =>
(bn (guardB true x43) fun x46 =>
(bn (ifb x46 (binO .eql 3 true x45 (n64 0))
(some (D.tup []))) fun x47 =>
(bn (mp (D.bool? x43) fun x48 => (ifb x48 x47
(D.bool false))) fun x48 =>
(bn (guardB true x48) fun x49 =>
(bn (ifb x49 (some x22)
(some (D.tup []))) fun x50 =>
(bn (guardB true x48) fun x51 =>
(bn (ifb x51 (binO .eql 3 true x50 (D.str [(97 : UInt8), (46 : UInt8), (42 : UInt8), (36 : UInt8), (99 : UInt8), (111 : UInt8), (114 : UInt8), (101 : UInt8), (40 : UInt8), (98 : UInt8), (124 : UInt8), (99 : UInt8), (41 : UInt8), (43 : UInt8)]))
(some (D.tup []))) fun x52 =>
(bn (mp (D.bool? x48) fun x53 => (ifb x53 x52
(D.bool false))) fun x53 =>
(bn (guardB true x53) fun x54 =>
(bn (ifb x54 (some x30)
(some (D.tup []))) fun x55 =>
(bn (mp (D.bool? x53) fun x56 => (ifb x56 x55
(D.bool false))) fun x56 =>
(bn (guardB true x56) fun x57 =>
(bn (ifb x57 (some x36)
(some (D.tup []))) fun x58 =>
(bn (guardB true x56) fun x59 =>
(bn (ifb x59 (unD UnOp.not x58)
(some (D.tup []))) fun x60 =>
(bn (mp (D.bool? x56) fun x61 => (ifb x61 x60
(D.bool false))) fun x61 =>
(leaveM M RetK.can A (Res.ret x61) x34.2)))))))))))))))))))))))))))) (fun x35 => (leaveM M RetK.can A (Res.pan x35) x34.2))))))))) (fun x29 => (leaveM M RetK.can A (Res.pan x29) x28.2))))))))))) (fun x21 => (leaveM M RetK.can A (Res.pan x21) x20.2)))))))))))))))))))))))) (fun x1 => (leaveM M RetK.can A (Res.pan x1) x0.2))))
theorem b12 (M : Mode) (call : CallT) (dcall : DcallT) (A : St) : bodyN M Tryd.prog rxHint kk call dcall 12 [] A = f12 M call dcall  A := by
  kernel_rfl
noncomputable def f13 (M : Mode) (call : CallT) (dcall : DcallT) (a0 : D) (A : St) : (Option (Res × St)) :=
(bn (allocO [(n64 0), (D.str []), (D.sl Own.full 0 [])] A) fun x0 =>
(bn (allocO [(n64 0)] x0.2) fun x1 =>
(bn (allocO [(n64 0)] x1.2) fun x2 =>
(bn (Option.map D.agg (Option.bind (layCells false 1 0 [(D.sl Own.full 0 []), (n64 0)] a0) (fun (x3 : (List D)) => (some x3)))) fun x3 =>
(bn (Option.map D.agg (Option.bind (layCells true 2 0 [(D.sl Own.full 0 []), (n64 0), (n64 0)] x3) (fun (x4 : (List D)) => (some x4)))) fun x4 =>
(bn (boxO true x4 x2.2) fun x5 =>
(bn (call 31 [x5.1] x5.2) fun x6 =>
(Res.elim x6.1 (fun x7 => (bn (allocO [(n64 0), (D.str []), (D.sl Own.full 0 [])] x6.2) fun x8 =>
(bn (mp (storeO true 3 x8.1 x7 x8.2) fun x9 => ((D.tup []), x9)) fun x9 =>
(bn (nilCheckD x5.1) fun x10 =>
(bn (fieldAddrO 0 x10) fun x11 =>
(bn (fieldAddrO 1 x11) fun x12 =>
(bn (mp (loadO false 1 x12 x9.2) fun x13 => (x13, x9.2)) fun x13 =>
(bn (lenSlO a0) fun x14 =>
(bn (binO .lss 3 false x13.1 x14) fun x15 =>
(bn (D.bool? x15) fun x16 =>
(bn (ifb x16 (bn (nilCheckD x5.1) fun x17 =>
(bn (fieldAddrO 0 x17) fun x18 =>
(bn (call 32 [x18, (n64 90)] x13.2) fun x19 =>
(Res.elim x19.1 (fun x20 => (some (Sum.inl ((Env.mk (sp [(2, x0.1), (0, x1.1), (0, x2.1), (1, x8.1), (18, x18), (0, x20)] 7) [((D.fn (Fn.func 30) [] [x0.1, x1.1, x2.1]), [])]), x19.2)))) (fun x20 => (Option.map (Sum.inr ) (bn (leavesD dcall (fun (x21 : St) => (Option.map packD (Option.bind (loadO true 3 x0.1 x21) (fun x22 => (mp (Option.bind (loadO false 1 x1.1 x21) (fun x23 => (mp (Option.bind (loadO false 1 x2.1 x21) (fun x24 => (some [x24]))) fun x24 => (@List.cons D x23 x24)))) fun x23 => (@List.cons D x22 x23)))))) [((D.fn (Fn.func 30) [] [x0.1, x1.1, x2.1]), [])] (some x20) x19.2) fun x21 =>
(leaveM M RetK.can A x21.1 x21.2))))))))
(some (Sum.inl ((Env.mk (sp [(2, x0.1), (0, x1.1), (0, x2.1), (1, x8.1), (18, (D.tup [])), (0, (D.tup []))] 7) [((D.fn (Fn.func 30) [] [x0.1, x1.1, x2.1]), [])]), x13.2)))) fun x17 =>
(Sum.elim (fun (x18 : (Env × St)) => (bn (mp (loadO true 3 (x18.1.g 6) x18.2) fun x19 => (x19, x18.2)) fun x19 =>
(bn (call 24 [x19.1] x19.2) fun x20 =>
(Res.elim x20.1 (fun x21 => (bn (binO .neq 3 true x21 (n64 0)) fun x22 =>
(bn (D.bool? x22) fun x23 =>
(ifb x23 (bn (mp (storeO true 3 (x18.1.g 2) (D.agg [(n64 0), (D.str []), (D.sl Own.full 0 [])]) x20.2) fun x24 => ((D.tup []), x24)) fun x24 =>
(bn (mp (storeO false 1 (x18.1.g 3) (n64 0) x24.2) fun x25 => ((D.tup []), x25)) fun x25 =>
(bn (mp (storeO false 1 (x18.1.g 4) x21 x25.2) fun x26 => ((D.tup []), x26)) fun x26 =>
(bn (leavesD dcall (fun (x27 : St) => (Option.map packD (Option.bind (loadO true 3 (x18.1.g 2) x27) (fun x28 => (mp (Option.bind (loadO false 1 (x18.1.g 3) x27) (fun x29 => (mp (Option.bind (loadO false 1 (x18.1.g 4) x27) (fun x30 => (some [x30]))) fun x30 => (@List.cons D x29 x30)))) fun x29 => (@List.cons D x28 x29)))))) (x18.1).df none x26.2) fun x27 =>
(leaveM M RetK.can A x27.1 x27.2)))))
(bn (mp (loadO true 3 (x18.1.g 6) x20.2) fun x24 => (x24, x20.2)) fun x24 =>
(bn (mp (storeO true 3 (x18.1.g 2) x24.1 x24.2) fun x25 => ((D.tup []), x25)) fun x25 =>
(bn (mp (storeO false 1 (x18.1.g 3) (n64 0) x25.2) fun x26 => ((D.tup []), x26)) fun x26 =>
(bn (mp (storeO false 1 (x18.1.g 4) (n64 0) x26.2) fun x27 => ((D.tup []), x27)) fun x27 =>
(bn (leavesD dcall (fun (x28 : St) => (Option.map packD (Option.bind (loadO true 3 (x18.1.g 2) x28) (fun x29 => (mp (Option.bind (loadO false 1 (x18.1.g 3) x28) (fun x30 => (mp (Option.bind (loadO false 1 (x18.1.g 4) x28) (fun x31 => (some [x31]))) fun x31 => (@List.cons D x30 x31)))) fun x30 => (@List.cons D x29 x30)))))) (x18.1).df none x27.2) fun x28 =>
(leaveM M RetK.can A x28.1 x28.2)))))))))) (fun x21 => (bn (leavesD dcall (fun (x22 : St) => (Option.map packD (Option.bind (loadO true 3 (x18.1.g 2) x22) (fun x23 => (mp (Option.bind (loadO false 1 (x18.1.g 3) x22) (fun x24 => (mp (Option.bind (loadO false 1 (x18.1.g 4) x22) (fun x25 => (some [x25]))) fun x25 => (@List.cons D x24 x25)))) fun x24 => (@List.cons D x23 x24)))))) (x18.1).df (some x21) x20.2) fun x22 =>
(leaveM M RetK.can A x22.1 x22.2))))))) (fun (x18 : (Res × St)) => (some x18)) x17)))))))))))) (fun x7 => (bn (leavesD dcall (fun (x8 : St) => (Option.map packD (Option.bind (loadO true 3 x0.1 x8) (fun x9 => (mp (Option.bind (loadO false 1 x1.1 x8) (fun x10 => (mp (Option.bind (loadO false 1 x2.1 x8) (fun x11 => (some [x11]))) fun x11 => (@List.cons D x10 x11)))) fun x10 => (@List.cons D x9 x10)))))) [((D.fn (Fn.func 30) [] [x0.1, x1.1, x2.1]), [])] (some x7) x6.2) fun x8 =>
(leaveM M RetK.can A x8.1 x8.2)))))))))))
theorem b13 (M : Mode) (call : CallT) (dcall : DcallT) (a0 : D) (A : St) : bodyN M Tryd.prog rxHint kk call dcall 13 [a0] A = f13 M call dcall a0.canon A := by
  kernel_rfl
noncomputable def f14 (M : Mode) (call : CallT) (dcall : DcallT) (a0 : D) (A : St) : (Option (Res × St)) :=
(bn (allocO [(n64 0), (D.str []), (D.sl Own.full 0 [])] A) fun x0 =>
(bn (Option.map D.agg (Option.bind (layCells false 1 0 [(D.sl Own.full 0 []), (n64 0), (n64 0), (n64 0), (n64 0)] a0) (fun (x1 : (List D)) => (some x1)))) fun x1 =>
(bn (boxO true x1 x0.2) fun x2 =>
(bn (call 33 [x2.1] x2.2) fun x3 =>
(Res.elim x3.1 (fun x4 => (bn (allocO [(n64 0), (D.str []), (D.sl Own.full 0 [])] x3.2) fun x5 =>
(bn (mp (storeO true 3 x5.1 x4 x5.2) fun x6 => ((D.tup []), x6)) fun x6 =>
(bn (nilCheckD x2.1) fun x7 =>
(bn (fieldAddrO 3 x7) fun x8 =>
(bn (mp (loadO false 1 x8 x6.2) fun x9 => (x9, x6.2)) fun x9 =>
(bn (binO .eql 3 true x9.1 (n64 0)) fun x10 =>
(bn (guardB true x10) fun x11 =>
(bn (ifb x11 (some x2.1)
(some (D.tup []))) fun x12 =>
(bn (guardB true x10) fun x13 =>
(bn (ifb x13 (nilCheckD x12)
(some (D.tup []))) fun x14 =>
(bn (guardB true x10) fun x15 =>
(bn (ifb x15 (fieldAddrO 1 x14)
(some (D.tup []))) fun x16 =>
(bn (guardB true x10) fun x17 =>
(bn (ifb x17 (mp (loadO false 1 x16 x9.2) fun x18 => (x18, x9.2))
(some ((D.tup []), x9.2))) fun x18 =>
(bn (guardB true x10) fun x19 =>
(bn (ifb x19 (some a0)
(some (D.tup []))) fun x20 =>
(bn (guardB true x10) fun x21 =>
(bn (ifb x21 (lenSlO x20)
(some (D.tup []))) fun x22 =>
(bn (guardB true x10) fun x23 =>
(bn (ifb x23 (binO .lss 3 false x18.1 x22)
(some (D.tup []))) fun x24 =>
(bn (mp (D.bool? x10) fun x25 => (ifb x25 x24
(D.bool false))) fun x25 =>
(bn (D.bool? x25) fun x26 =>
(bn (ifb x26 (bn (call 34 [x2.1, (n64 90)] x18.2) fun x27 =>
(Res.elim x27.1 (fun x28 => (some (Sum.inl ((Env.mk (sp [(2, x0.1), (2, x2.1), (0, x5.1), (18, x24)] 24) []), x27.2)))) (fun x28 => (Option.map (Sum.inr ) (leaveM M RetK.can A (Res.pan x28) x27.2)))))
(some (Sum.inl ((Env.mk (sp [(2, x0.1), (2, x2.1), (0, x5.1), (18, x24)] 24) []), x18.2)))) fun x27 =>
(Sum.elim (fun (x28 : (Env × St)) => (bn (nilCheckD (x28.1.g 5)) fun x29 =>
(bn (fieldAddrO 3 x29) fun x30 =>
(bn (mp (loadO false 1 x30 x28.2) fun x31 => (x31, x28.2)) fun x31 =>
(bn (binO .neq 3 true x31.1 (n64 0)) fun x32 =>
(bn (D.bool? x32) fun x33 =>
(ifb x33 (bn (nilCheckD (x28.1.g 5)) fun x34 =>
(bn (fieldAddrO 4 x34) fun x35 =>
(bn (mp (mp (loadO false 1 x35 x31.2) fun x36 => (x36, x31.2)) fun x36 => x36.1) fun x36 =>
(bn (nilCheckD (x28.1.g 5)) fun x37 =>
(bn (fieldAddrO 3 x37) fun x38 =>
(bn (mp (mp (loadO false 1 x38 x31.2) fun x39 => (x39, x31.2)) fun x39 => x39.1) fun x39 =>
(bn (mp (storeO true 3 (x28.1.g 2) (D.agg [(n64 0), (D.str []), (D.sl Own.full 0 [])]) x31.2) fun x40 => ((D.tup []), x40)) fun x40 =>
(@Mode.gs M (Res × St) ((sameAd x35 x31.2 x40.2) ∧ ((sameAd x38 x31.2 x40.2) ∧ True)) (Bool.and (sameAdB x35 x31.2 x40.2) (Bool.and (sameAdB x38 x31.2 x40.2) true)) (bn (leavesD dcall (fun (x41 : St) => (Option.map packD (Option.bind (loadO true 3 (x28.1.g 2) x41) (fun x42 => (some [x42, x36, x39]))))) (x28.1).df none x40.2) fun x41 =>
(leaveM M RetK.can A x41.1 x41.2))))))))))
(bn (mp (loadO true 3 (x28.1.g 6) x31.2) fun x34 => (x34, x31.2)) fun x34 =>
(bn (call 16 [x34.1] x34.2) fun x35 =>
(Res.elim x35.1 (fun x36 => (bn (binO .neq 3 true x36 (n64 0)) fun x37 =>
(bn (D.bool? x37) fun x38 =>
(ifb x38 (bn (mp (storeO true 3 (x28.1.g 2) (D.agg [(n64 0), (D.str []), (D.sl Own.full 0 [])]) x35.2) fun x39 => ((D.tup []), x39)) fun x39 =>
(bn (leavesD dcall (fun (x40 : St) => (Option.map packD (Option.bind (loadO true 3 (x28.1.g 2) x40) (fun x41 => (some [x41, (n64 0), x36]))))) (x28.1).df none x39.2) fun x40 =>
(leaveM M RetK.can A x40.1 x40.2)))
(bn (mp (loadO true 3 (x28.1.g 6) x35.2) fun x39 => (x39, x35.2)) fun x39 =>
(bn (mp (storeO true 3 (x28.1.g 2) x39.1 x39.2) fun x40 => ((D.tup []), x40)) fun x40 =>
(bn (leavesD dcall (fun (x41 : St) => (Option.map packD (Option.bind (loadO true 3 (x28.1.g 2) x41) (fun x42 => (some [x42, (n64 0), (n64 0)]))))) (x28.1).df none x40.2) fun x41 =>
(leaveM M RetK.can A x41.1 x41.2)))))))) (fun x36 => (bn (leavesD dcall (fun (x37 : St) => (Option.map packD (Option.bind (loadO true 3 (x28.1.g 2) x37) (fun x38 => (some [x38, (x28.1.g 3), (x28.1.g 4)]))))) (x28.1).df (some x36) x35.2) fun x37 =>
(leaveM M RetK.can A x37.1 x37.2))))))))))))) (fun (x28 : (Res × St)) => (some x28)) x27))))))))))))))))))))))))) (fun x4 => (leaveM M RetK.can A (Res.pan x4) x3.2)))))))
theorem b14 (M : Mode) (call : CallT) (dcall : DcallT) (a0 : D) (A : St) : bodyN M Tryd.prog rxHint kk call dcall 14 [a0] A = f14 M call dcall a0.canon A := by
  kernel_rfl
noncomputable def f15 (M : Mode) (call : CallT) (dcall : DcallT) (a0 : D) (A : St) : (Option (Res × St)) :=
(bn (lenSlO a0) fun x0 =>
(bn (binO .gtr 3 true x0 (n64 30)) fun x1 =>
(bn (D.bool? x1) fun x2 =>
(ifb x2 (bn (sliceSlO 2 a0 none (some (n64 30)) none) fun x3 =>
(leaveM M RetK.can A (Res.ret x3) A))
(leaveM M RetK.can A (Res.ret a0) A)))))
theorem b15 (M : Mode) (call : CallT) (dcall : DcallT) (a0 : D) (A : St) : bodyN M Tryd.prog rxHint kk call dcall 15 [a0] A = f15 M call dcall a0.canon A := by
  kernel_rfl
theorem r15 (a0 : D) (A : St) : Run Tryd.prog rxA 15 [a0] A = f15 mL (Run Tryd.prog rxA) (Dcall Tryd.prog rxA) a0.canon A := (Run_eqN Tryd.prog rxA kk rfl rfl _ _).trans (b15 mL (Run Tryd.prog rxA) (Dcall Tryd.prog rxA) a0 A)
noncomputable def f16 (M : Mode) (call : CallT) (dcall : DcallT) (a0 : D) (A : St) : (Option (Res × St)) :=
(bn (boxO true a0 A) fun x0 =>
(bn (mp (loadO true 3 x0.1 x0.2) fun x1 => (x1, x0.2)) fun x1 =>
(bn (call 35 [x1.1, (n64 1000), (n64 100001)] x1.2) fun x2 =>
(Res.elim x2.1 (fun x3 => (bn (extractD x3 0) fun x4 =>
(bn (extractD x3 1) fun x5 =>
(bn (binO .gtr 3 true x4 (n64 1000)) fun x6 =>
(bn (D.bool? x6) fun x7 =>
(ifb x7 (leaveM M RetK.can A (Res.ret (n64 3)) x2.2)
(bn (mp (loadO true 3 x0.1 x2.2) fun x8 => (x8, x2.2)) fun x8 =>
(bn (call 36 [x8.1, (n64 100)] x8.2) fun x9 =>
(Res.elim x9.1 (fun x10 => (bn (D.bool? x10) fun x11 =>
(ifb x11 (leaveM M RetK.can A (Res.ret (n64 91)) x9.2)
(bn (mp (loadO true 3 x0.1 x9.2) fun x12 => (x12, x9.2)) fun x12 =>
(bn (call 37 [x12.1] x12.2) fun x13 =>
(Res.elim x13.1 (fun x14 => (bn (unD UnOp.not x14) fun x15 =>
(bn (D.bool? x15) fun x16 =>
(ifb x16 (leaveM M RetK.can A (Res.ret (n64 92)) x13.2)
(leaveM M RetK.can A (Res.ret (n64 0)) x13.2))))) (fun x14 => (leaveM M RetK.can A (Res.pan x14) x13.2)))))))) (fun x10 => (leaveM M RetK.can A (Res.pan x10) x9.2))))))))))) (fun x3 => (leaveM M RetK.can A (Res.pan x3) x2.2))))))
theorem b16 (M : Mode) (call : CallT) (dcall : DcallT) (a0 : D) (A : St) : bodyN M Tryd.prog rxHint kk call dcall 16 [a0] A = f16 M call dcall a0.canon A := by
  kernel_rfl
theorem r16 (a0 : D) (A : St) : Run Tryd.prog rxA 16 [a0] A = f16 mL (Run Tryd.prog rxA) (Dcall Tryd.prog rxA) a0.canon A := (Run_eqN Tryd.prog rxA kk rfl rfl _ _).trans (b16 mL (Run Tryd.prog rxA) (Dcall Tryd.prog rxA) a0 A)
noncomputable def f17 (M : Mode) (call : CallT) (dcall : DcallT) (a0 : D) (a1 : D) (A : St) : (Option (Res × St)) :=
(bn (boxO true a1 A) fun x0 =>
(bn (allocO [(n64 0), (D.str []), (D.sl Own.full 0 [])] x0.2) fun x1 =>
(bn (mp (loadO true 3 x0.1 x1.2) fun x2 => (x2, x1.2)) fun x2 =>
(bn (mp (Option.map (D.sl Own.full 3) (sliceParts 3 true 0 [(0, x2.1)])) fun x3 => (x3, x2.2)) fun x3 =>
(bn (Option.map D.agg (Option.bind (layCells false 1 0 [(n64 0), (D.str []), (D.sl Own.full 0 [])] a0) (fun (x4 : (List D)) => (Option.bind (layCells false 1 2 x4 x3.1) (fun (x5 : (List D)) => (some x5)))))) fun x4 =>
(bn (mp (storeO true 3 x1.1 x4 x3.2) fun x5 => ((D.tup []), x5)) fun x5 =>
(bn (mp (Option.map packD (Option.bind (loadO true 3 x1.1 x5.2) (fun x6 => (some [x6])))) fun x6 => ((Res.ret x6), x5.2)) fun x6 =>
(leaveM M RetK.can A x6.1 x6.2))))))))
theorem b17 (M : Mode) (call : CallT) (dcall : DcallT) (a0 a1 : D) (A : St) : bodyN M Tryd.prog rxHint kk call dcall 17 [a0, a1] A = f17 M call dcall a0.canon a1.canon A := by
  kernel_rfl
theorem r17 (a0 a1 : D) (A : St) : Run Tryd.prog rxA 17 [a0, a1] A = f17 mL (Run Tryd.prog rxA) (Dcall Tryd.prog rxA) a0.canon a1.canon A := (Run_eqN Tryd.prog rxA kk rfl rfl _ _).trans (b17 mL (Run Tryd.prog rxA) (Dcall Tryd.prog rxA) a0 a1 A)
noncomputable def f18 (M : Mode) (call : CallT) (dcall : DcallT) (a0 : D) (a1 : D) (a2 : D) (A : St) : (Option (Res × St)) :=
(bn (boxO true a0 A) fun x0 =>
(bn (boxO true a1 x0.2) fun x1 =>
(bn (mp (loadO true 3 x0.1 x1.2) fun x2 => (x2, x1.2)) fun x2 =>
(bn (call 29 [x2.1, a2] x2.2) fun x3 =>
(Res.elim x3.1 (fun x4 => (bn (extractD x4 0) fun x5 =>
(bn (extractD x4 1) fun x6 =>
(bn (mp (loadO true 3 x1.1 x3.2) fun x7 => (x7, x3.2)) fun x7 =>
(bn (call 29 [x7.1, a2] x7.2) fun x8 =>
(Res.elim x8.1 (fun x9 => (bn (extractD x9 0) fun x10 =>
(bn (extractD x9 1) fun x11 =>
(bn (binO .neq 3 true x6 (n64 0)) fun x12 =>
(bn (guardB false x12) fun x13 =>
(bn (ifb x13 (some x11)
(some (D.tup []))) fun x14 =>
(bn (guardB false x12) fun x15 =>
(bn (ifb x15 (binO .neq 3 true x14 (n64 0))
(some (D.tup []))) fun x16 =>
(bn (mp (D.bool? x12) fun x17 => (ifb x17 (D.bool true)
 x16)) fun x17 =>
(bn (guardB false x17) fun x18 =>
(bn (ifb x18 (some x5)
(some (D.tup []))) fun x19 =>
(bn (guardB false x17) fun x20 =>
(bn (ifb x20 (some x10)
(some (D.tup []))) fun x21 =>
(bn (guardB false x17) fun x22 =>
(bn (ifb x22 (binO .eql 0 false x19 x21)
(some (D.tup []))) fun x23 =>
(bn (mp (D.bool? x17) fun x24 => (ifb x24 (D.bool true)
 x23)) fun x24 =>
(leaveM M RetK.can A (Res.ret x24) x8.2))))))))))))))))) (fun x9 => (leaveM M RetK.can A (Res.pan x9) x8.2)))))))) (fun x4 => (leaveM M RetK.can A (Res.pan x4) x3.2)))))))
theorem b18 (M : Mode) (call : CallT) (dcall : DcallT) (a0 a1 a2 : D) (A : St) : bodyN M Tryd.prog rxHint kk call dcall 18 [a0, a1, a2] A = f18 M call dcall a0.canon a1.canon a2.canon A := by
  kernel_rfl
theorem r18 (a0 a1 a2 : D) (A : St) : Run Tryd.prog rxA 18 [a0, a1, a2] A = f18 mL (Run Tryd.prog rxA) (Dcall Tryd.prog rxA) a0.canon a1.canon a2.canon A := (Run_eqN Tryd.prog rxA kk rfl rfl _ _).trans (b18 mL (Run Tryd.prog rxA) (Dcall Tryd.prog rxA) a0 a1 a2 A)
noncomputable def f19_s0 (M : Mode) (call : CallT) (dcall : DcallT) (A : St) (e : Env) (Av5 : St) : (Option ((Env × St) ⊕ (Res × St))) :=
(bn (lenSlO (e.g 1)) fun x0 =>
(bn (binO .lss 3 false (e.g 6) x0) fun x1 =>
(bn (D.bool? x1) fun x2 =>
(ifb x2 (bn (indexAddrO 3 true (e.g 1) (e.g 6)) fun x3 =>
(bn (fieldAddrO 0 x3) fun x4 =>
(bn (mp (loadO false 1 x4 Av5) fun x5 => (x5, Av5)) fun x5 =>
(bn (binO .eql 3 false x5.1 (e.g 0)) fun x6 =>
(bn (D.bool? x6) fun x7 =>
(bn (ifb x7 (bn (fieldAddrO 2 (e.g 5)) fun x8 =>
(bn (mp (mp (loadO false 1 x8 x5.2) fun x9 => (x9, x5.2)) fun x9 => x9.1) fun x9 =>
(bn (indexAddrO 3 true (e.g 1) (e.g 6)) fun x10 =>
(bn (fieldAddrO 2 x10) fun x11 =>
(bn (mp (mp (loadO false 1 x11 x5.2) fun x12 => (x12, x5.2)) fun x12 => x12.1) fun x12 =>
(bn (appendO 3 48 x9 x12 x5.2) fun x13 =>
(bn (fieldAddrO 2 (e.g 5)) fun x14 =>
(bn (mp (storeO false 1 x14 x13.1 x13.2) fun x15 => ((D.tup []), x15)) fun x15 =>
(@Mode.gs M ((Env × St) ⊕ ((Env × St) ⊕ (Res × St))) True true (some (Sum.inl ((Env.mk (sp [(0, (e.g 0)), (0, (e.g 1)), (2, (e.g 4)), (0, (e.g 5)), (0, (e.g 6)), (18, x5.1)] 33) (e).df), x15.2))))))))))))
(bn (fieldAddrO 2 (e.g 5)) fun x8 =>
(bn (mp (mp (loadO false 1 x8 x5.2) fun x9 => (x9, x5.2)) fun x9 => x9.1) fun x9 =>
(bn (indexAddrO 3 true (e.g 1) (e.g 6)) fun x10 =>
(bn (mp (mp (loadO true 3 x10 x5.2) fun x11 => (x11, x5.2)) fun x11 => x11.1) fun x11 =>
(bn (mp (mp (Option.map (D.sl Own.full 3) (sliceParts 3 true 0 [(0, x11)])) fun x12 => (x12, ([] : St))) fun x12 => x12.1) fun x12 =>
(bn (appendO 3 48 x9 x12 x5.2) fun x13 =>
(bn (fieldAddrO 2 (e.g 5)) fun x14 =>
(bn (mp (storeO false 1 x14 x13.1 x13.2) fun x15 => ((D.tup []), x15)) fun x15 =>
(@Mode.gs M ((Env × St) ⊕ ((Env × St) ⊕ (Res × St))) True true (some (Sum.inl ((Env.mk (sp [(0, (e.g 0)), (0, (e.g 1)), (2, (e.g 4)), (0, (e.g 5)), (0, (e.g 6)), (18, x5.1)] 33) (e).df), x15.2))))))))))))) fun x8 =>
(Sum.elim (fun (x9 : (Env × St)) => (bn (binO .add 3 true (x9.1.g 6) (n64 1)) fun x10 =>
(some (Sum.inl ((Env.mk (sp [(0, (x9.1.g 0)), (0, (x9.1.g 1)), (2, (x9.1.g 4)), (0, (x9.1.g 5)), (0, x10), (18, (x9.1.g 25))] 33) (x9.1).df), x9.2))))) (fun (x9 : ((Env × St) ⊕ (Res × St))) => (some x9)) x8)))))))
(Option.map (Sum.inr ) (bn (binO .eql 3 true (e.g 0) (n64 4)) fun x3 =>
(bn (guardB true x3) fun x4 =>
(bn (ifb x4 (fieldAddrO 2 (e.g 5))
(some (D.tup []))) fun x5 =>
(bn (guardB true x3) fun x6 =>
(bn (ifb x6 (mp (loadO false 1 x5 Av5) fun x7 => (x7, Av5))
(some ((D.tup []), Av5))) fun x7 =>
(bn (guardB true x3) fun x8 =>
(bn (ifb x8 (lenSlO x7.1)
(some (D.tup []))) fun x9 =>
(bn (guardB true x3) fun x10 =>
(bn (ifb x10 (binO .eql 3 true x9 (n64 1))
(some (D.tup []))) fun x11 =>
(bn (mp (D.bool? x3) fun x12 => (ifb x12 x11
(D.bool false))) fun x12 =>
(bn (D.bool? x12) fun x13 =>
(ifb x13 (bn (fieldAddrO 2 (e.g 5)) fun x14 =>
(bn (mp (loadO false 1 x14 x7.2) fun x15 => (x15, x7.2)) fun x15 =>
(bn (indexAddrO 3 true x15.1 (n64 0)) fun x16 =>
(bn (mp (loadO true 3 x16 x15.2) fun x17 => (x17, x15.2)) fun x17 =>
(bn (mp (storeO true 3 (e.g 4) x17.1 x17.2) fun x18 => ((D.tup []), x18)) fun x18 =>
(bn (leavesD dcall (fun (x19 : St) => (Option.map packD (Option.bind (loadO true 3 (e.g 4) x19) (fun x20 => (some [x20]))))) (e).df none x18.2) fun x19 =>
(leaveM M RetK.can A x19.1 x19.2)))))))
(bn (mp (loadO true 3 (e.g 5) x7.2) fun x14 => (x14, x7.2)) fun x14 =>
(bn (mp (storeO true 3 (e.g 4) x14.1 x14.2) fun x15 => ((D.tup []), x15)) fun x15 =>
(bn (leavesD dcall (fun (x16 : St) => (Option.map packD (Option.bind (loadO true 3 (e.g 4) x16) (fun x17 => (some [x17]))))) (e).df none x15.2) fun x16 =>
(leaveM M RetK.can A x16.1 x16.2)))))))))))))))))))))
noncomputable def f19 (M : Mode) (call : CallT) (dcall : DcallT) (a0 : D) (a1 : D) (A : St) : (Option (Res × St)) :=
(bn (allocO [(n64 0), (D.str []), (D.sl Own.full 0 [])] A) fun x0 =>
(bn (lenSlO a1) fun x1 =>
(bn (binO .eql 3 true x1 (n64 1)) fun x2 =>
(bn (D.bool? x2) fun x3 =>
(ifb x3 (bn (indexAddrO 3 true a1 (n64 0)) fun x4 =>
(bn (mp (loadO true 3 x4 x0.2) fun x5 => (x5, x0.2)) fun x5 =>
(bn (mp (storeO true 3 x0.1 x5.1 x5.2) fun x6 => ((D.tup []), x6)) fun x6 =>
(bn (mp (Option.map packD (Option.bind (loadO true 3 x0.1 x6.2) (fun x7 => (some [x7])))) fun x7 => ((Res.ret x7), x6.2)) fun x7 =>
(leaveM M RetK.can A x7.1 x7.2)))))
(bn (Option.map D.agg (Option.bind (layCells false 1 0 [(n64 0), (D.str []), (D.sl Own.full 0 [])] a0) (fun (x4 : (List D)) => (some x4)))) fun x4 =>
(bn (allocO [(n64 0), (D.str []), (D.sl Own.full 0 [])] x0.2) fun x5 =>
(bn (mp (storeO true 3 x5.1 x4 x5.2) fun x6 => ((D.tup []), x6)) fun x6 =>
(@Mode.it M (Res × St) (f19_s0 M call dcall A) (Env.mk (sp [(0, a0), (0, a1), (2, x0.1), (0, x5.1), (0, (n64 0)), (18, (D.tup []))] 33) []) x6.2)))))))))
theorem b19 (M : Mode) (call : CallT) (dcall : DcallT) (a0 a1 : D) (A : St) : bodyN M Tryd.prog rxHint kk call dcall 19 [a0, a1] A = f19 M call dcall a0.canon a1.canon A := by
  kernel_rfl
theorem r19 (a0 a1 : D) (A : St) : Run Tryd.prog rxA 19 [a0, a1] A = f19 mL (Run Tryd.prog rxA) (Dcall Tryd.prog rxA) a0.canon a1.canon A := (Run_eqN Tryd.prog rxA kk rfl rfl _ _).trans (b19 mL (Run Tryd.prog rxA) (Dcall Tryd.prog rxA) a0 a1 A)
noncomputable def f20 (M : Mode) (call : CallT) (dcall : DcallT) (a0 : D) (A : St) : (Option (Res × St)) :=
(bn (boxO true a0 A) fun x0 =>
(bn (mp (loadO true 3 x0.1 x0.2) fun x1 => (x1, x0.2)) fun x1 =>
(bn (call 24 [x1.1] x1.2) fun x2 =>
(Res.elim x2.1 (fun x3 => (bn (binO .neq 3 true x3 (n64 0)) fun x4 =>
(bn (D.bool? x4) fun x5 =>
(ifb x5 (leaveM M RetK.can A (Res.ret (D.tup [(D.str []), x3])) x2.2)
(bn (mp (loadO true 3 x0.1 x2.2) fun x6 => (x6, x2.2)) fun x6 =>
(bn (call 39 [x6.1, (n64 1)] x6.2) fun x7 =>
(Res.elim x7.1 (fun x8 => (bn (call 38 [x8] x7.2) fun x9 =>
(Res.elim x9.1 (fun x10 => (bn (extractD x10 0) fun x11 =>
(bn (extractD x10 1) fun x12 =>
(leaveM M RetK.can A (Res.ret (D.tup [x11, x12])) x9.2)))) (fun x10 => (leaveM M RetK.can A (Res.pan x10) x9.2))))) (fun x8 => (leaveM M RetK.can A (Res.pan x8) x7.2))))))))) (fun x3 => (leaveM M RetK.can A (Res.pan x3) x2.2))))))
theorem b20 (M : Mode) (call : CallT) (dcall : DcallT) (a0 : D) (A : St) : bodyN M Tryd.prog rxHint kk call dcall 20 [a0] A = f20 M call dcall a0.canon A := by
  kernel_rfl
noncomputable def f21 (M : Mode) (call : CallT) (dcall : DcallT) (a0 : D) (A : St) : (Option (Res × St)) :=
(bn (boxO true a0 A) fun x0 =>
(bn (mp (loadO true 3 x0.1 x0.2) fun x1 => (x1, x0.2)) fun x1 =>
(bn (call 16 [x1.1] x1.2) fun x2 =>
(Res.elim x2.1 (fun x3 => (bn (binO .neq 3 true x3 (n64 0)) fun x4 =>
(bn (D.bool? x4) fun x5 =>
(ifb x5 (leaveM M RetK.can A (Res.ret (D.tup [(D.str []), x3])) x2.2)
(bn (mp (loadO true 3 x0.1 x2.2) fun x6 => (x6, x2.2)) fun x6 =>
(bn (call 41 [x6.1, (n64 0), (n64 0)] x6.2) fun x7 =>
(Res.elim x7.1 (fun x8 => (bn (call 40 [x8] x7.2) fun x9 =>
(Res.elim x9.1 (fun x10 => (bn (extractD x10 0) fun x11 =>
(bn (extractD x10 1) fun x12 =>
(leaveM M RetK.can A (Res.ret (D.tup [x11, (n64 0)])) x9.2)))) (fun x10 => (leaveM M RetK.can A (Res.pan x10) x9.2))))) (fun x8 => (leaveM M RetK.can A (Res.pan x8) x7.2))))))))) (fun x3 => (leaveM M RetK.can A (Res.pan x3) x2.2))))))
theorem b21 (M : Mode) (call : CallT) (dcall : DcallT) (a0 : D) (A : St) : bodyN M Tryd.prog rxHint kk call dcall 21 [a0] A = f21 M call dcall a0.canon A := by
  kernel_rfl
noncomputable def f22 (M : Mode) (call : CallT) (dcall : DcallT) (a0 : D) (A : St) : (Option (Res × St)) :=
(bn (boxO true a0 A) fun x0 =>
(bn (mp (loadO true 3 x0.1 x0.2) fun x1 => (x1, x0.2)) fun x1 =>
(bn (call 42 [x1.1, (n64 100000), (n64 1000)] x1.2) fun x2 =>
(Res.elim x2.1 (fun x3 => (bn (extractD x3 0) fun x4 =>
(bn (extractD x3 1) fun x5 =>
(bn (extractD x3 2) fun x6 =>
(leaveM M RetK.can A (Res.ret (D.tup [x4, x5])) x2.2))))) (fun x3 => (leaveM M RetK.can A (Res.pan x3) x2.2))))))
theorem b22 (M : Mode) (call : CallT) (dcall : DcallT) (a0 : D) (A : St) : bodyN M Tryd.prog rxHint kk call dcall 22 [a0] A = f22 M call dcall a0.canon A := by
  kernel_rfl
noncomputable def f23 (M : Mode) (call : CallT) (dcall : DcallT) (a0 : D) (A : St) : (Option (Res × St)) :=
(bn (boxO true a0 A) fun x0 =>
(bn (mp (loadO true 3 x0.1 x0.2) fun x1 => (x1, x0.2)) fun x1 =>
(bn (call 35 [x1.1, (n64 100000), (n64 1000)] x1.2) fun x2 =>
(Res.elim x2.1 (fun x3 => (bn (extractD x3 0) fun x4 =>
(bn (extractD x3 1) fun x5 =>
(bn (binO .gtr 3 true x4 (n64 100000)) fun x6 =>
(bn (D.bool? x6) fun x7 =>
(ifb x7 (leaveM M RetK.can A (Res.ret (D.tup [(n64 0), (n64 0)])) x2.2)
(leaveM M RetK.can A (Res.ret (D.tup [x4, x5])) x2.2))))))) (fun x3 => (leaveM M RetK.can A (Res.pan x3) x2.2))))))
theorem b23 (M : Mode) (call : CallT) (dcall : DcallT) (a0 : D) (A : St) : bodyN M Tryd.prog rxHint kk call dcall 23 [a0] A = f23 M call dcall a0.canon A := by
  kernel_rfl
noncomputable def f24 (M : Mode) (call : CallT) (dcall : DcallT) (a0 : D) (A : St) : (Option (Res × St)) :=
(bn (boxO true a0 A) fun x0 =>
(bn (mp (loadO true 3 x0.1 x0.2) fun x1 => (x1, x0.2)) fun x1 =>
(bn (call 43 [x1.1, (n64 1000)] x1.2) fun x2 =>
(Res.elim x2.1 (fun x3 => (bn (binO .lss 3 true x3 (n64 0)) fun x4 =>
(bn (D.bool? x4) fun x5 =>
(ifb x5 (leaveM M RetK.can A (Res.ret (n64 3)) x2.2)
(bn (mp (loadO true 3 x0.1 x2.2) fun x6 => (x6, x2.2)) fun x6 =>
(bn (call 42 [x6.1, (n64 1000), (n64 100)] x6.2) fun x7 =>
(Res.elim x7.1 (fun x8 => (bn (extractD x8 0) fun x9 =>
(bn (extractD x8 1) fun x10 =>
(bn (extractD x8 2) fun x11 =>
(bn (unD UnOp.not x11) fun x12 =>
(bn (D.bool? x12) fun x13 =>
(ifb x13 (leaveM M RetK.can A (Res.ret (n64 91)) x7.2)
(bn (mp (loadO true 3 x0.1 x7.2) fun x14 => (x14, x7.2)) fun x14 =>
(bn (call 44 [x14.1] x14.2) fun x15 =>
(Res.elim x15.1 (fun x16 => (bn (unD UnOp.not x16) fun x17 =>
(bn (D.bool? x17) fun x18 =>
(ifb x18 (leaveM M RetK.can A (Res.ret (n64 92)) x15.2)
(leaveM M RetK.can A (Res.ret (n64 0)) x15.2))))) (fun x16 => (leaveM M RetK.can A (Res.pan x16) x15.2)))))))))))) (fun x8 => (leaveM M RetK.can A (Res.pan x8) x7.2))))))))) (fun x3 => (leaveM M RetK.can A (Res.pan x3) x2.2))))))
theorem b24 (M : Mode) (call : CallT) (dcall : DcallT) (a0 : D) (A : St) : bodyN M Tryd.prog rxHint kk call dcall 24 [a0] A = f24 M call dcall a0.canon A := by
  kernel_rfl
theorem r24 (a0 : D) (A : St) : Run Tryd.prog rxA 24 [a0] A = f24 mL (Run Tryd.prog rxA) (Dcall Tryd.prog rxA) a0.canon A := (Run_eqN Tryd.prog rxA kk rfl rfl _ _).trans (b24 mL (Run Tryd.prog rxA) (Dcall Tryd.prog rxA) a0 A)
noncomputable def f25 (M : Mode) (call : CallT) (dcall : DcallT) (a0 : D) (a1 : D) (A : St) : (Option (Res × St)) :=
(bn (boxO true a0 A) fun x0 =>
(bn (boxO true a1 x0.2) fun x1 =>
(bn (fieldAddrO 0 x0.1) fun x2 =>
(bn (mp (loadO false 1 x2 x1.2) fun x3 => (x3, x1.2)) fun x3 =>
(bn (fieldAddrO 0 x1.1) fun x4 =>
(bn (mp (loadO false 1 x4 x3.2) fun x5 => (x5, x3.2)) fun x5 =>
(bn (binO .eql 3 false x3.1 x5.1) fun x6 =>
(bn (guardB true x6) fun x7 =>
(bn (ifb x7 (fieldAddrO 1 x0.1)
(some (D.tup []))) fun x8 =>
(bn (guardB true x6) fun x9 =>
(bn (ifb x9 (mp (loadO false 1 x8 x5.2) fun x10 => (x10, x5.2))
(some ((D.tup []), x5.2))) fun x10 =>
(bn (guardB true x6) fun x11 =>
(bn (ifb x11 (fieldAddrO 1 x1.1)
(some (D.tup []))) fun x12 =>
(bn (guardB true x6) fun x13 =>
(bn (ifb x13 (mp (loadO false 1 x12 x10.2) fun x14 => (x14, x10.2))
(some ((D.tup []), x10.2))) fun x14 =>
(bn (guardB true x6) fun x15 =>
(bn (ifb x15 (binO .eql 3 false x10.1 x14.1)
(some (D.tup []))) fun x16 =>
(bn (mp (D.bool? x6) fun x17 => (ifb x17 x16
(D.bool false))) fun x17 =>
(bn (guardB true x17) fun x18 =>
(bn (ifb x18 (fieldAddrO 2 x0.1)
(some (D.tup []))) fun x19 =>
(bn (guardB true x17) fun x20 =>
(bn (ifb x20 (mp (loadO false 1 x19 x14.2) fun x21 => (x21, x14.2))
(some ((D.tup []), x14.2))) fun x21 =>
(bn (guardB true x17) fun x22 =>
(bn (ifb x22 (fieldAddrO 2 x1.1)
(some (D.tup []))) fun x23 =>
(bn (guardB true x17) fun x24 =>
(bn (ifb x24 (mp (loadO false 1 x23 x21.2) fun x25 => (x25, x21.2))
(some ((D.tup []), x21.2))) fun x25 =>
(bn (guardB true x17) fun x26 =>
(bn (ifb x26 (call 45 [x21.1, x25.1, (D.fn (Fn.func 25) [] [])] x25.2)
(some ((Res.ret (D.tup [])), x25.2))) fun x27 =>
(Res.elim x27.1 (fun x28 => (bn (mp (D.bool? x17) fun x29 => (ifb x29 x28
(D.bool false))) fun x29 =>
(leaveM M RetK.can A (Res.ret x29) x27.2))) (fun x28 => (leaveM M RetK.can A (Res.pan x28) x27.2)))))))))))))))))))))))))))))))
theorem b25 (M : Mode) (call : CallT) (dcall : DcallT) (a0 a1 : D) (A : St) : bodyN M Tryd.prog rxHint kk call dcall 25 [a0, a1] A = f25 M call dcall a0.canon a1.canon A := by
  kernel_rfl
noncomputable def f26 (M : Mode) (call : CallT) (dcall : DcallT) (a0 : D) (A : St) : (Option (Res × St)) :=
(bn (allocO [(D.sl Own.full 0 [])] A) fun x0 =>
(bn (allocO [(n64 0)] x0.2) fun x1 =>
(bn (allocO [(n64 0)] x1.2) fun x2 =>
(bn (allocO [(n64 0)] x2.2) fun x3 =>
(bn (lenStrO a0) fun x4 =>
(bn (binO .gtr 3 true x4 (n64 1048576)) fun x5 =>
(bn (D.bool? x5) fun x6 =>
(ifb x6 (bn (mp (storeO false 1 x0.1 (D.sl Own.full 0 []) x3.2) fun x7 => ((D.tup []), x7)) fun x7 =>
(bn (mp (storeO false 1 x1.1 (n64 0) x7.2) fun x8 => ((D.tup []), x8)) fun x8 =>
(bn (mp (storeO false 1 x2.1 (n64 0) x8.2) fun x9 => ((D.tup []), x9)) fun x9 =>
(bn (mp (storeO false 1 x3.1 (n64 2) x9.2) fun x10 => ((D.tup []), x10)) fun x10 =>
(bn (mp (Option.map packD (Option.bind (loadO false 1 x0.1 x10.2) (fun x11 => (mp (Option.bind (loadO false 1 x1.1 x10.2) (fun x12 => (mp (Option.bind (loadO false 1 x2.1 x10.2) (fun x13 => (mp (Option.bind (loadO false 1 x3.1 x10.2) (fun x14 => (some [x14]))) fun x14 => (@List.cons D x13 x14)))) fun x13 => (@List.cons D x12 x13)))) fun x12 => (@List.cons D x11 x12))))) fun x11 => ((Res.ret x11), x10.2)) fun x11 =>
(leaveM M RetK.can A x11.1 x11.2))))))
(bn (allocO [(n64 0)] x3.2) fun x7 =>
(bn (mp (storeO false 1 x7.1 (n64 0) x7.2) fun x8 => ((D.tup []), x8)) fun x8 =>
(bn (allocO [(D.sl Own.full 0 [])] x8.2) fun x9 =>
(bn (tokO [(0, 1)] x9.1 x9.2) fun x10 =>
(bn (call 47 [a0, (D.str [(10 : UInt8)])] x10.2) fun x11 =>
(Res.elim x11.1 (fun x12 => (bn (seqCall Proofs.Tryd.prog call x12 (HAdd.hAdd (List.length x11.2) 1) (x11.2 ++ [Slot.dfb, (Slot.loop 26 [D.any, D.any, D.any, D.any, D.any, D.any, x7.1, x10.1, D.any, D.any, D.any, D.any, D.any, D.any, D.any, D.any, D.any, D.any, D.any, D.any, D.any, D.any, D.any, D.any, D.any, D.any, D.any, D.any, D.any, D.any, D.any, D.any, D.any, D.any, D.any, D.any, D.any, D.any, D.any, D.any] (rfAt Proofs.Tryd.prog 26 8) RSt.ready)])) fun x13 =>
(Res.elim x13.1 (fun x14 => (bn (endX (HAdd.hAdd (List.length x11.2) 1) x13.2) fun x15 =>
(Out.seqK (Out.block 0 (Out.mk x15.1 (Env.mk (sp [(0, a0), (0, (D.tup [])), (0, x0.1), (0, x1.1), (0, x2.1), (0, x3.1), (0, x7.1), (0, x10.1), (0, (D.tup [])), (0, (D.tup [])), (0, a0), (0, x4), (0, (D.bool false)), (0, (D.fn (Fn.func 46) [] [x0.1, x1.1, x2.1, x3.1])), (0, a0), (0, x12), (0, (D.tup [])), (0, (D.tup [])), (0, (D.tup [])), (0, (D.tup [])), (0, (D.tup [])), (0, (D.tup [])), (0, (D.tup [])), (0, (D.tup [])), (0, (D.tup [])), (0, (D.tup [])), (0, (D.tup [])), (0, (D.tup [])), (0, (D.tup [])), (0, (D.tup [])), (0, (D.tup [])), (0, (D.tup [])), (0, (D.tup [])), (0, (D.tup [])), (0, (D.tup [])), (0, (D.tup [])), (0, (D.tup [])), (0, (D.tup [])), (0, (D.tup [])), (0, (D.tup []))] 0) [((D.yld true (List.length x11.2)), []), ((D.fn (Fn.func 46) [] [x0.1, x1.1, x2.1, x3.1]), [])]) x15.2)) (fun (x16 : Env) => (fun (x17 : St) => (bn (mp (loadO false 1 (x16.g 7) x17) fun x18 => (x18, x17)) fun x18 =>
(bn (mp (storeO false 1 (x16.g 2) x18.1 x18.2) fun x19 => ((D.tup []), x19)) fun x19 =>
(bn (mp (storeO false 1 (x16.g 3) (n64 0) x19.2) fun x20 => ((D.tup []), x20)) fun x20 =>
(bn (mp (storeO false 1 (x16.g 4) (n64 0) x20.2) fun x21 => ((D.tup []), x21)) fun x21 =>
(bn (mp (storeO false 1 (x16.g 5) (n64 0) x21.2) fun x22 => ((D.tup []), x22)) fun x22 =>
(bn (leavesD dcall (fun (x23 : St) => (Option.map packD (Option.bind (loadO false 1 (x16.g 2) x23) (fun x24 => (mp (Option.bind (loadO false 1 (x16.g 3) x23) (fun x25 => (mp (Option.bind (loadO false 1 (x16.g 4) x23) (fun x26 => (mp (Option.bind (loadO false 1 (x16.g 5) x23) (fun x27 => (some [x27]))) fun x27 => (@List.cons D x26 x27)))) fun x26 => (@List.cons D x25 x26)))) fun x25 => (@List.cons D x24 x25)))))) (x16).df none x22.2) fun x23 =>
(leaveM M RetK.can A x23.1 x23.2))))))))) (fun (x16 : Out) => (bn (Out.leave x16 (fun (x17 : Env) => (fun (x18 : (Option D)) => (fun (x19 : St) => (leavesD dcall (fun (x20 : St) => (Option.map packD (Option.bind (loadO false 1 (List.getD x17.t 2 (D.tup [])) x20) (fun x21 => (mp (Option.bind (loadO false 1 (List.getD x17.t 3 (D.tup [])) x20) (fun x22 => (mp (Option.bind (loadO false 1 (List.getD x17.t 4 (D.tup [])) x20) (fun x23 => (mp (Option.bind (loadO false 1 (List.getD x17.t 5 (D.tup [])) x20) (fun x24 => (some [x24]))) fun x24 => (@List.cons D x23 x24)))) fun x23 => (@List.cons D x22 x23)))) fun x22 => (@List.cons D x21 x22)))))) (x17).df x18 x19))))) fun x17 =>
(leaveM M RetK.can A x17.1 x17.2)))))) (fun x14 => (bn (leavesD dcall (fun (x15 : St) => (Option.map packD (Option.bind (loadO false 1 x0.1 x15) (fun x16 => (mp (Option.bind (loadO false 1 x1.1 x15) (fun x17 => (mp (Option.bind (loadO false 1 x2.1 x15) (fun x18 => (mp (Option.bind (loadO false 1 x3.1 x15) (fun x19 => (some [x19]))) fun x19 => (@List.cons D x18 x19)))) fun x18 => (@List.cons D x17 x18)))) fun x17 => (@List.cons D x16 x17)))))) [((D.yld true (List.length x11.2)), []), ((D.fn (Fn.func 46) [] [x0.1, x1.1, x2.1, x3.1]), [])] (some x14) x13.2) fun x15 =>
(leaveM M RetK.can A x15.1 x15.2)))))) (fun x12 => (bn (leavesD dcall (fun (x13 : St) => (Option.map packD (Option.bind (loadO false 1 x0.1 x13) (fun x14 => (mp (Option.bind (loadO false 1 x1.1 x13) (fun x15 => (mp (Option.bind (loadO false 1 x2.1 x13) (fun x16 => (mp (Option.bind (loadO false 1 x3.1 x13) (fun x17 => (some [x17]))) fun x17 => (@List.cons D x16 x17)))) fun x16 => (@List.cons D x15 x16)))) fun x15 => (@List.cons D x14 x15)))))) [((D.fn (Fn.func 46) [] [x0.1, x1.1, x2.1, x3.1]), [])] (some x12) x11.2) fun x13 =>
(leaveM M RetK.can A x13.1 x13.2)))))))))))))))))
theorem b26 (M : Mode) (call : CallT) (dcall : DcallT) (a0 : D) (A : St) : bodyN M Tryd.prog rxHint kk call dcall 26 [a0] A = f26 M call dcall a0.canon A := by
  kernel_rfl
noncomputable def f27_s0 (M : Mode) (call : CallT) (dcall : DcallT) (A : St) (e : Env) (Av5 : St) : (Option ((Env × St) ⊕ (Res × St))) :=
(bn (binO .lss 3 false (e.g 27) (e.g 26)) fun x0 =>
(bn (D.bool? x0) fun x1 =>
(ifb x1 (bn (indexAddrO 1 false (e.g 25) (e.g 27)) fun x2 =>
(bn (mp (loadO false 1 x2 Av5) fun x3 => (x3, Av5)) fun x3 =>
(bn (appendO 3 32 (e.g 6) x3.1 x3.2) fun x4 =>
(bn (binO .add 3 true (e.g 27) (n64 1)) fun x5 =>
(some (Sum.inl ((Env.mk (sp [(6, x4.1), (18, (e.g 25)), (0, (e.g 26)), (0, x5)] 8) (e).df), x4.2)))))))
(Option.map (Sum.inr ) (bn (leavesD dcall (fun (x2 : St) => (some (e.g 6))) (e).df none Av5) fun x2 =>
(leaveM M RetK.own A x2.1 x2.2))))))
noncomputable def f27_s1 (M : Mode) (call : CallT) (dcall : DcallT) (A : St) (e : Env) (Av5 : St) : (Option ((Env × St) ⊕ (Res × St))) :=
(bn (binO .lss 3 false (e.g 11) (e.g 10)) fun x0 =>
(bn (D.bool? x0) fun x1 =>
(ifb x1 (bn (indexAddrO 1 false (e.g 9) (e.g 11)) fun x2 =>
(bn (mp (loadO false 1 x2 Av5) fun x3 => (x3, Av5)) fun x3 =>
(bn (lenSlO x3.1) fun x4 =>
(bn (binO .add 3 false (e.g 3) x4) fun x5 =>
(bn (binO .lss 3 true x5 (n64 0)) fun x6 =>
(bn (D.bool? x6) fun x7 =>
(bn (ifb x7 (Option.map (Sum.inr ) (Option.map (Sum.inr ) (bn (leavesD dcall (fun (x8 : St) => (some (e.g 2))) (e).df (some (D.iface 9 (D.str [(108 : UInt8), (101 : UInt8), (110 : UInt8), (32 : UInt8), (111 : UInt8), (117 : UInt8), (116 : UInt8), (32 : UInt8), (111 : UInt8), (102 : UInt8), (32 : UInt8), (114 : UInt8), (97 : UInt8), (110 : UInt8), (103 : UInt8), (101 : UInt8)]))) x3.2) fun x8 =>
(leaveM M RetK.own A x8.1 x8.2))))
(some (Sum.inl ((Env.mk (sp [(0, (e.g 0)), (2, x5), (5, (e.g 9)), (0, (e.g 10)), (0, (e.g 11))] 24) (e).df), x3.2)))) fun x8 =>
(Sum.elim (fun (x9 : (Env × St)) => (bn (binO .add 3 true (x9.1.g 11) (n64 1)) fun x10 =>
(some (Sum.inl ((Env.mk (sp [(0, (x9.1.g 0)), (2, (x9.1.g 3)), (5, (x9.1.g 9)), (0, (x9.1.g 10)), (0, x10)] 24) (x9.1).df), x9.2))))) (fun (x9 : ((Env × St) ⊕ (Res × St))) => (some x9)) x8))))))))
(Option.map (Sum.inr ) (bn (call 49 [(D.sl Own.full 0 []), (e.g 3)] Av5) fun x2 =>
(Res.elim x2.1 (fun x3 => (bn (lenSlO (e.g 0)) fun x4 =>
(@Mode.it M (Res × St) (f27_s0 M call dcall A) (Env.mk (sp [(6, x3), (18, (e.g 0)), (0, x4), (0, (n64 0))] 8) (e).df) x2.2))) (fun x3 => (bn (leavesD dcall (fun (x4 : St) => (some (e.g 2))) (e).df (some x3) x2.2) fun x4 =>
(leaveM M RetK.own A x4.1 x4.2)))))))))
noncomputable def f27 (M : Mode) (call : CallT) (dcall : DcallT) (a0 : D) (A : St) : (Option (Res × St)) :=
(bn (lenSlO a0) fun x0 =>
(@Mode.it M (Res × St) (f27_s1 M call dcall A) (Env.mk (sp [(0, a0), (2, (n64 0)), (5, a0), (0, x0), (0, (n64 0))] 24) []) A))
theorem b27 (M : Mode) (call : CallT) (dcall : DcallT) (a0 : D) (A : St) : bodyN M Tryd.prog rxHint kk call dcall 27 [a0] A = f27 M call dcall a0.canon A := by
  kernel_rfl
noncomputable def f28_s0 (M : Mode) (call : CallT) (dcall : DcallT) (A : St) (e : Env) (Av5 : St) : (Option ((Env × St) ⊕ (Res × St))) :=
(bn (lenStrO (e.g 0)) fun x0 =>
(bn (binO .leq 3 false (e.g 9) x0) fun x1 =>
(bn (D.bool? x1) fun x2 =>
(ifb x2 (bn (lenStrO (e.g 0)) fun x3 =>
(bn (binO .lss 3 false (e.g 9) x3) fun x4 =>
(bn (guardB true x4) fun x5 =>
(bn (ifb x5 (some (e.g 0))
(some (D.tup []))) fun x6 =>
(bn (guardB true x4) fun x7 =>
(bn (ifb x7 (some (e.g 9))
(some (D.tup []))) fun x8 =>
(bn (guardB true x4) fun x9 =>
(bn (ifb x9 (indexStrO x6 x8)
(some (D.tup []))) fun x10 =>
(bn (guardB true x4) fun x11 =>
(bn (ifb x11 (binO .neq 3 true x10 (D.int IntKind.u8 (10 : Int)))
(some (D.tup []))) fun x12 =>
(bn (mp (D.bool? x4) fun x13 => (ifb x13 x12
(D.bool false))) fun x13 =>
(bn (D.bool? x13) fun x14 =>
(ifb x14 (bn (binO .add 3 true (e.g 9) (n64 1)) fun x15 =>
(some (Sum.inl ((Env.mk (sp [(0, (e.g 0)), (5, (e.g 6)), (0, (e.g 7)), (0, (e.g 8)), (0, x15)] 47) (e).df), Av5))))
(bn (sliceStrO (e.g 0) (some (e.g 7)) (some (e.g 9)) none) fun x15 =>
(bn (call 50 [x15, (e.g 8)] Av5) fun x16 =>
(Res.elim x16.1 (fun x17 => (bn (extractD x17 0) fun x18 =>
(bn (extractD x17 1) fun x19 =>
(bn (binO .geq 3 true x19 (n64 0)) fun x20 =>
(bn (D.bool? x20) fun x21 =>
(ifb x21 (bn (binO .add 3 true x19 (n64 1)) fun x22 =>
(Option.map (Sum.inr ) (bn (leavesD dcall (fun (x23 : St) => (some (D.tup [(D.sl Own.full 0 []), (e.g 8), x22, (n64 30)]))) (e).df none x16.2) fun x23 =>
(leaveM M RetK.can A x23.1 x23.2))))
(bn (lenSlO x18) fun x22 =>
(bn (binO .gtr 3 true x22 (n64 0)) fun x23 =>
(bn (D.bool? x23) fun x24 =>
(bn (ifb x24 (bn (mp (Option.map (D.sl Own.full 1) (sliceParts 1 false 0 [(0, x18)])) fun x25 => (x25, x16.2)) fun x25 =>
(bn (appendO 1 24 (e.g 6) x25.1 x25.2) fun x26 =>
(some (Sum.inl ((Env.mk (sp [(0, (e.g 0)), (5, x26.1), (1, (e.g 8)), (0, (e.g 9))] 47) (e).df), x26.2)))))
(some (Sum.inl ((Env.mk (sp [(0, (e.g 0)), (5, (e.g 6)), (1, (e.g 8)), (0, (e.g 9))] 47) (e).df), x16.2)))) fun x25 =>
(Sum.elim (fun (x26 : (Env × St)) => (bn (binO .add 3 true (x26.1.g 9) (n64 1)) fun x27 =>
(bn (binO .add 3 true (x26.1.g 8) (n64 1)) fun x28 =>
(bn (binO .add 3 true (x26.1.g 9) (n64 1)) fun x29 =>
(some (Sum.inl ((Env.mk (sp [(0, (x26.1.g 0)), (5, (x26.1.g 6)), (0, x27), (0, x28), (0, x29)] 47) (x26.1).df), x26.2))))))) (fun (x26 : ((Env × St) ⊕ (Res × St))) => (some x26)) x25))))))))))) (fun x17 => (Option.map (Sum.inr ) (bn (leavesD dcall (fun (x18 : St) => (some (D.tup [(e.g 2), (e.g 3), (e.g 4), (e.g 5)]))) (e).df (some x17) x16.2) fun x18 =>
(leaveM M RetK.can A x18.1 x18.2))))))))))))))))))))
(Option.map (Sum.inr ) (bn (leavesD dcall (fun (x3 : St) => (some (D.tup [(e.g 6), (n64 0), (n64 0), (n64 0)]))) (e).df none Av5) fun x3 =>
(leaveM M RetK.can A x3.1 x3.2)))))))
noncomputable def f28 (M : Mode) (call : CallT) (dcall : DcallT) (a0 : D) (A : St) : (Option (Res × St)) :=
(bn (lenStrO a0) fun x0 =>
(bn (binO .gtr 3 true x0 (n64 1048576)) fun x1 =>
(bn (D.bool? x1) fun x2 =>
(ifb x2 (leaveM M RetK.can A (Res.ret (D.tup [(D.sl Own.full 0 []), (n64 0), (n64 0), (n64 2)])) A)
(@Mode.it M (Res × St) (f28_s0 M call dcall A) (Env.mk (sp [(0, a0), (5, (D.sl Own.full 0 [])), (0, (n64 0)), (0, (n64 1)), (0, (n64 0))] 47) []) A)))))
theorem b28 (M : Mode) (call : CallT) (dcall : DcallT) (a0 : D) (A : St) : bodyN M Tryd.prog rxHint kk call dcall 28 [a0] A = f28 M call dcall a0.canon A := by
  kernel_rfl
noncomputable def f29 (M : Mode) (call : CallT) (dcall : DcallT) (a0 : D) (a1 : D) (A : St) : (Option (Res × St)) :=
(bn (boxO true a0 A) fun x0 =>
(bn (mp (loadO true 3 x0.1 x0.2) fun x1 => (x1, x0.2)) fun x1 =>
(bn (call 24 [x1.1] x1.2) fun x2 =>
(Res.elim x2.1 (fun x3 => (bn (binO .neq 3 true x3 (n64 0)) fun x4 =>
(bn (D.bool? x4) fun x5 =>
(ifb x5 (leaveM M RetK.can A (Res.ret (D.tup [(D.bool false), x3])) x2.2)
(bn (mp (loadO true 3 x0.1 x2.2) fun x6 => (x6, x2.2)) fun x6 =>
(bn (call 51 [x6.1, a1] x6.2) fun x7 =>
(Res.elim x7.1 (fun x8 => (bn (indexAddrO 1 false x8 (n64 0)) fun x9 =>
(bn (mp (loadO false 1 x9 x7.2) fun x10 => (x10, x7.2)) fun x10 =>
(bn (lenSlO a1) fun x11 =>
(bn (indexAddrO 1 false x10.1 x11) fun x12 =>
(bn (mp (loadO false 1 x12 x10.2) fun x13 => (x13, x10.2)) fun x13 =>
(leaveM M RetK.can A (Res.ret (D.tup [x13.1, (n64 0)])) x13.2))))))) (fun x8 => (leaveM M RetK.can A (Res.pan x8) x7.2))))))))) (fun x3 => (leaveM M RetK.can A (Res.pan x3) x2.2))))))
theorem b29 (M : Mode) (call : CallT) (dcall : DcallT) (a0 a1 : D) (A : St) : bodyN M Tryd.prog rxHint kk call dcall 29 [a0, a1] A = f29 M call dcall a0.canon a1.canon A := by
  kernel_rfl
theorem r29 (a0 a1 : D) (A : St) : Run Tryd.prog rxA 29 [a0, a1] A = f29 mL (Run Tryd.prog rxA) (Dcall Tryd.prog rxA) a0.canon a1.canon A := (Run_eqN Tryd.prog rxA kk rfl rfl _ _).trans (b29 mL (Run Tryd.prog rxA) (Dcall Tryd.prog rxA) a0 a1 A)
noncomputable def f30 (M : Mode) (call : CallT) (dcall : DcallT) (a0 : D) (a1 : D) (a2 : D) (A : St) : (Option (Res × St)) :=
  none
theorem b30 (M : Mode) (call : CallT) (dcall : DcallT) (a0 a1 a2 : D) (A : St) : bodyN M Tryd.prog rxHint kk call dcall 30 [a0, a1, a2] A = f30 M call dcall a0.canon a1.canon a2.canon A := by
  kernel_rfl
noncomputable def f31_s0 (M : Mode) (call : CallT) (dcall : DcallT) (A : St) (e : Env) (Av5 : St) : (Option ((Env × St) ⊕ (Res × St))) :=
(bn (nilCheckD (e.g 0)) fun x0 =>
(bn (fieldAddrO 0 x0) fun x1 =>
(bn (mp (Option.map (D.sl Own.full 1) (sliceParts 1 false 0 [(0, (D.str [(124 : UInt8)]))])) fun x2 => (x2, Av5)) fun x2 =>
(bn (call 53 [x1, x2.1] x2.2) fun x3 =>
(Res.elim x3.1 (fun x4 => (bn (extractD x4 0) fun x5 =>
(bn (extractD x4 1) fun x6 =>
(bn (unD UnOp.not x6) fun x7 =>
(bn (D.bool? x7) fun x8 =>
(ifb x8 (Option.map (Sum.inr ) (bn (lenSlO (e.g 3)) fun x9 =>
(bn (binO .eql 3 true x9 (n64 1)) fun x10 =>
(bn (D.bool? x10) fun x11 =>
(ifb x11 (bn (indexAddrO 3 true (e.g 3) (n64 0)) fun x12 =>
(bn (mp (loadO true 3 x12 x3.2) fun x13 => (x13, x3.2)) fun x13 =>
(bn (mp (storeO true 3 (e.g 2) x13.1 x13.2) fun x14 => ((D.tup []), x14)) fun x14 =>
(bn (leavesD dcall (fun (x15 : St) => (Option.map packD (Option.bind (loadO true 3 (e.g 2) x15) (fun x16 => (some [x16]))))) (e).df none x14.2) fun x15 =>
(leaveM M RetK.can A x15.1 x15.2)))))
(bn (call 54 [(n64 5), (e.g 3)] x3.2) fun x12 =>
(Res.elim x12.1 (fun x13 => (bn (mp (storeO true 3 (e.g 2) x13 x12.2) fun x14 => ((D.tup []), x14)) fun x14 =>
(bn (leavesD dcall (fun (x15 : St) => (Option.map packD (Option.bind (loadO true 3 (e.g 2) x15) (fun x16 => (some [x16]))))) (e).df none x14.2) fun x15 =>
(leaveM M RetK.can A x15.1 x15.2)))) (fun x13 => (bn (leavesD dcall (fun (x14 : St) => (Option.map packD (Option.bind (loadO true 3 (e.g 2) x14) (fun x15 => (some [x15]))))) (e).df (some x13) x12.2) fun x14 =>
(leaveM M RetK.can A x14.1 x14.2))))))))))
(bn (call 52 [(e.g 0)] x3.2) fun x9 =>
(Res.elim x9.1 (fun x10 => (bn (mp (Option.map (D.sl Own.full 3) (sliceParts 3 true 0 [(0, x10)])) fun x11 => (x11, x9.2)) fun x11 =>
(bn (appendO 3 48 (e.g 3) x11.1 x11.2) fun x12 =>
(some (Sum.inl ((Env.mk (sp [(0, (e.g 0)), (1, (e.g 2)), (0, x12.1)] 28) (e).df), x12.2)))))) (fun x10 => (Option.map (Sum.inr ) (bn (leavesD dcall (fun (x11 : St) => (Option.map packD (Option.bind (loadO true 3 (e.g 2) x11) (fun x12 => (some [x12]))))) (e).df (some x10) x9.2) fun x11 =>
(leaveM M RetK.can A x11.1 x11.2)))))))))))) (fun x4 => (Option.map (Sum.inr ) (bn (leavesD dcall (fun (x5 : St) => (Option.map packD (Option.bind (loadO true 3 (e.g 2) x5) (fun x6 => (some [x6]))))) (e).df (some x4) x3.2) fun x5 =>
(leaveM M RetK.can A x5.1 x5.2)))))))))
noncomputable def f31 (M : Mode) (call : CallT) (dcall : DcallT) (a0 : D) (A : St) : (Option (Res × St)) :=
(bn (allocO [(n64 0), (D.str []), (D.sl Own.full 0 [])] A) fun x0 =>
(bn (call 52 [a0] x0.2) fun x1 =>
(Res.elim x1.1 (fun x2 => (bn (mp (Option.map (D.sl Own.full 3) (sliceParts 3 true 0 [(0, x2)])) fun x3 => (x3, x1.2)) fun x3 =>
(@Mode.it M (Res × St) (f31_s0 M call dcall A) (Env.mk (sp [(0, a0), (1, x0.1), (0, x3.1)] 28) []) x3.2))) (fun x2 => (leaveM M RetK.can A (Res.pan x2) x1.2)))))
theorem b31 (M : Mode) (call : CallT) (dcall : DcallT) (a0 : D) (A : St) : bodyN M Tryd.prog rxHint kk call dcall 31 [a0] A = f31 M call dcall a0.canon A := by
  kernel_rfl
noncomputable def f32 (M : Mode) (call : CallT) (dcall : DcallT) (a0 : D) (a1 : D) (A : St) : (Option (Res × St)) :=
(bn (nilCheckD a0) fun x0 =>
(bn (fieldAddrO 1 x0) fun x1 =>
(bn (mp (loadO false 1 x1 A) fun x2 => (x2, A)) fun x2 =>
(bn (Option.map D.agg (Option.bind (layCells false 1 0 [(n64 0), (n64 0)] x2.1) (fun (x3 : (List D)) => (Option.bind (layCells false 1 1 x3 a1) (fun (x4 : (List D)) => (some x4)))))) fun x3 =>
(leaveM M RetK.can A (Res.pan (D.iface 69 x3)) x2.2)))))
theorem b32 (M : Mode) (call : CallT) (dcall : DcallT) (a0 a1 : D) (A : St) : bodyN M Tryd.prog rxHint kk call dcall 32 [a0, a1] A = f32 M call dcall a0.canon a1.canon A := by
  kernel_rfl
noncomputable def f33_s0 (M : Mode) (call : CallT) (dcall : DcallT) (A : St) (e : Env) (Av5 : St) : (Option ((Env × St) ⊕ (Res × St))) :=
(bn (nilCheckD (e.g 0)) fun x0 =>
(bn (fieldAddrO 3 x0) fun x1 =>
(bn (mp (loadO false 1 x1 Av5) fun x2 => (x2, Av5)) fun x2 =>
(bn (binO .eql 3 true x2.1 (n64 0)) fun x3 =>
(bn (guardB true x3) fun x4 =>
(bn (ifb x4 (some (e.g 0))
(some (D.tup []))) fun x5 =>
(bn (guardB true x3) fun x6 =>
(bn (ifb x6 (call 56 [x5] x2.2)
(some ((Res.ret (D.tup [])), x2.2))) fun x7 =>
(Res.elim x7.1 (fun x8 => (bn (guardB true x3) fun x9 =>
(bn (ifb x9 (binO .eql 3 true x8 (D.str [(124 : UInt8)]))
(some (D.tup []))) fun x10 =>
(bn (mp (D.bool? x3) fun x11 => (ifb x11 x10
(D.bool false))) fun x11 =>
(bn (D.bool? x11) fun x12 =>
(ifb x12 (bn (nilCheckD (e.g 0)) fun x13 =>
(bn (fieldAddrO 1 x13) fun x14 =>
(bn (mp (loadO false 1 x14 x7.2) fun x15 => (x15, x7.2)) fun x15 =>
(bn (binO .add 3 true x15.1 (n64 1)) fun x16 =>
(bn (nilCheckD (e.g 0)) fun x17 =>
(bn (fieldAddrO 1 x17) fun x18 =>
(bn (mp (storeO false 1 x18 x16 x15.2) fun x19 => ((D.tup []), x19)) fun x19 =>
(bn (call 55 [(e.g 0)] x19.2) fun x20 =>
(Res.elim x20.1 (fun x21 => (bn (mp (Option.map (D.sl Own.full 3) (sliceParts 3 true 0 [(0, x21)])) fun x22 => (x22, x20.2)) fun x22 =>
(bn (appendO 3 48 (e.g 3) x22.1 x22.2) fun x23 =>
(some (Sum.inl ((Env.mk (sp [(0, (e.g 0)), (1, (e.g 2)), (0, x23.1), (21, (e.g 0))] 5) (e).df), x23.2)))))) (fun x21 => (Option.map (Sum.inr ) (bn (leavesD dcall (fun (x22 : St) => (Option.map packD (Option.bind (loadO true 3 (e.g 2) x22) (fun x23 => (some [x23]))))) (e).df (some x21) x20.2) fun x22 =>
(leaveM M RetK.can A x22.1 x22.2)))))))))))))
(Option.map (Sum.inr ) (bn (call 19 [(n64 5), (e.g 3)] x7.2) fun x13 =>
(Res.elim x13.1 (fun x14 => (bn (mp (storeO true 3 (e.g 2) x14 x13.2) fun x15 => ((D.tup []), x15)) fun x15 =>
(bn (leavesD dcall (fun (x16 : St) => (Option.map packD (Option.bind (loadO true 3 (e.g 2) x16) (fun x17 => (some [x17]))))) (e).df none x15.2) fun x16 =>
(leaveM M RetK.can A x16.1 x16.2)))) (fun x14 => (bn (leavesD dcall (fun (x15 : St) => (Option.map packD (Option.bind (loadO true 3 (e.g 2) x15) (fun x16 => (some [x16]))))) (e).df (some x14) x13.2) fun x15 =>
(leaveM M RetK.can A x15.1 x15.2)))))))))))) (fun x8 => (Option.map (Sum.inr ) (bn (leavesD dcall (fun (x9 : St) => (Option.map packD (Option.bind (loadO true 3 (e.g 2) x9) (fun x10 => (some [x10]))))) (e).df (some x8) x7.2) fun x9 =>
(leaveM M RetK.can A x9.1 x9.2)))))))))))))
noncomputable def f33 (M : Mode) (call : CallT) (dcall : DcallT) (a0 : D) (A : St) : (Option (Res × St)) :=
(bn (allocO [(n64 0), (D.str []), (D.sl Own.full 0 [])] A) fun x0 =>
(bn (call 55 [a0] x0.2) fun x1 =>
(Res.elim x1.1 (fun x2 => (bn (mp (Option.map (D.sl Own.full 3) (sliceParts 3 true 0 [(0, x2)])) fun x3 => (x3, x1.2)) fun x3 =>
(@Mode.it M (Res × St) (f33_s0 M call dcall A) (Env.mk (sp [(0, a0), (1, x0.1), (0, x3.1), (21, (D.tup []))] 5) []) x3.2))) (fun x2 => (leaveM M RetK.can A (Res.pan x2) x1.2)))))
theorem b33 (M : Mode) (call : CallT) (dcall : DcallT) (a0 : D) (A : St) : bodyN M Tryd.prog rxHint kk call dcall 33 [a0] A = f33 M call dcall a0.canon A := by
  kernel_rfl
noncomputable def f34 (M : Mode) (call : CallT) (dcall : DcallT) (a0 : D) (a1 : D) (A : St) : (Option (Res × St)) :=
(bn (allocO [(n64 0), (D.str []), (D.sl Own.full 0 [])] A) fun x0 =>
(bn (nilCheckD a0) fun x1 =>
(bn (fieldAddrO 3 x1) fun x2 =>
(bn (mp (loadO false 1 x2 x0.2) fun x3 => (x3, x0.2)) fun x3 =>
(bn (binO .eql 3 true x3.1 (n64 0)) fun x4 =>
(bn (D.bool? x4) fun x5 =>
(bn (ifb x5 (bn (nilCheckD a0) fun x6 =>
(bn (fieldAddrO 1 x6) fun x7 =>
(bn (mp (loadO false 1 x7 x3.2) fun x8 => (x8, x3.2)) fun x8 =>
(bn (nilCheckD a0) fun x9 =>
(bn (fieldAddrO 3 x9) fun x10 =>
(bn (mp (storeO false 1 x10 a1 x8.2) fun x11 => ((D.tup []), x11)) fun x11 =>
(bn (nilCheckD a0) fun x12 =>
(bn (fieldAddrO 4 x12) fun x13 =>
(bn (mp (storeO false 1 x13 x8.1 x11.2) fun x14 => ((D.tup []), x14)) fun x14 =>
(some (Sum.inl ((Env.mk (sp [(4, x0.1)] 17) []), x14.2))))))))))))
(some (Sum.inl ((Env.mk (sp [(4, x0.1)] 17) []), x3.2)))) fun x6 =>
(Sum.elim (fun (x7 : (Env × St)) => (bn (mp (storeO true 3 (x7.1.g 4) (D.agg [(n64 0), (D.str []), (D.sl Own.full 0 [])]) x7.2) fun x8 => ((D.tup []), x8)) fun x8 =>
(bn (leavesD dcall (fun (x9 : St) => (Option.map packD (Option.bind (loadO true 3 (x7.1.g 4) x9) (fun x10 => (some [x10]))))) (x7.1).df none x8.2) fun x9 =>
(leaveM M RetK.can A x9.1 x9.2)))) (fun (x7 : (Res × St)) => (some x7)) x6))))))))
theorem b34 (M : Mode) (call : CallT) (dcall : DcallT) (a0 a1 : D) (A : St) : bodyN M Tryd.prog rxHint kk call dcall 34 [a0, a1] A = f34 M call dcall a0.canon a1.canon A := by
  kernel_rfl
noncomputable def f35_s0 (M : Mode) (call : CallT) (dcall : DcallT) (A : St) (e : Env) (Av5 : St) : (Option ((Env × St) ⊕ (Res × St))) :=
(bn (fieldAddrO 2 (e.g 3)) fun x0 =>
(bn (mp (loadO false 1 x0 Av5) fun x1 => (x1, Av5)) fun x1 =>
(bn (lenSlO x1.1) fun x2 =>
(bn (binO .lss 3 false (e.g 10) x2) fun x3 =>
(bn (guardB true x3) fun x4 =>
(bn (ifb x4 (some (e.g 8))
(some (D.tup []))) fun x5 =>
(bn (guardB true x3) fun x6 =>
(bn (ifb x6 (some (e.g 1))
(some (D.tup []))) fun x7 =>
(bn (guardB true x3) fun x8 =>
(bn (ifb x8 (binO .leq 3 false x5 x7)
(some (D.tup []))) fun x9 =>
(bn (mp (D.bool? x3) fun x10 => (ifb x10 x9
(D.bool false))) fun x10 =>
(bn (D.bool? x10) fun x11 =>
(ifb x11 (bn (fieldAddrO 2 (e.g 3)) fun x12 =>
(bn (mp (loadO false 1 x12 x1.2) fun x13 => (x13, x1.2)) fun x13 =>
(bn (indexAddrO 3 true x13.1 (e.g 10)) fun x14 =>
(bn (mp (loadO true 3 x14 x13.2) fun x15 => (x15, x13.2)) fun x15 =>
(bn (binO .sub 3 false (e.g 1) (e.g 8)) fun x16 =>
(bn (binO .sub 3 true (e.g 2) (n64 1)) fun x17 =>
(bn (call 35 [x15.1, x16, x17] x15.2) fun x18 =>
(Res.elim x18.1 (fun x19 => (bn (extractD x19 0) fun x20 =>
(bn (extractD x19 1) fun x21 =>
(bn (binO .add 3 false (e.g 8) x20) fun x22 =>
(bn (binO .gtr 3 false x21 (e.g 9)) fun x23 =>
(bn (D.bool? x23) fun x24 =>
(bn (ifb x24 (some (Sum.inl ((Env.mk (sp [(1, (e.g 1)), (0, (e.g 2)), (0, (e.g 3)), (4, x22), (0, x21), (0, (e.g 10))] 42) (e).df), x18.2)))
(some (Sum.inl ((Env.mk (sp [(1, (e.g 1)), (0, (e.g 2)), (0, (e.g 3)), (4, x22), (0, (e.g 9)), (0, (e.g 10))] 42) (e).df), x18.2)))) fun x25 =>
(Sum.elim (fun (x26 : (Env × St)) => (bn (binO .add 3 true (x26.1.g 10) (n64 1)) fun x27 =>
(@Mode.gk M ((Env × St) ⊕ (Res × St)) Av5 x26.2 (some (Sum.inl ((Env.mk (sp [(1, (D.shut (List.length Av5) (x26.1.g 1))), (0, (D.shut (List.length Av5) (x26.1.g 2))), (0, (D.shut (List.length Av5) (x26.1.g 3))), (4, (D.shut (List.length Av5) (x26.1.g 8))), (0, (D.shut (List.length Av5) (x26.1.g 9))), (0, (D.shut (List.length Av5) x27))] 42) (List.map (fun (x28 : (D × (List D))) => ((D.shut (List.length Av5) x28.1), (D.shutL (List.length Av5) x28.2))) (x26.1).df)), (List.take (List.length Av5) x26.2))))))) (fun (x26 : ((Env × St) ⊕ (Res × St))) => (some x26)) x25)))))))) (fun x19 => (Option.map (Sum.inr ) (bn (leavesD dcall (fun (x20 : St) => (some (D.tup [(e.g 6), (e.g 7)]))) (e).df (some x19) x18.2) fun x20 =>
(leaveM M RetK.can A x20.1 x20.2))))))))))))
(Option.map (Sum.inr ) (bn (binO .add 3 true (e.g 9) (n64 1)) fun x12 =>
(bn (leavesD dcall (fun (x13 : St) => (some (D.tup [(e.g 8), x12]))) (e).df none x1.2) fun x13 =>
(leaveM M RetK.can A x13.1 x13.2)))))))))))))))))
noncomputable def f35 (M : Mode) (call : CallT) (dcall : DcallT) (a0 : D) (a1 : D) (a2 : D) (A : St) : (Option (Res × St)) :=
(bn (boxO true a0 A) fun x0 =>
(bn (binO .leq 3 true a2 (n64 0)) fun x1 =>
(bn (D.bool? x1) fun x2 =>
(ifb x2 (bn (binO .add 3 true a1 (n64 1)) fun x3 =>
(leaveM M RetK.can A (Res.ret (D.tup [x3, (n64 0)])) x0.2))
(@Mode.it M (Res × St) (f35_s0 M call dcall A) (Env.mk (sp [(1, a1), (0, a2), (0, x0.1), (4, (n64 1)), (0, (n64 0)), (0, (n64 0))] 42) []) x0.2)))))
theorem b35 (M : Mode) (call : CallT) (dcall : DcallT) (a0 a1 a2 : D) (A : St) : bodyN M Tryd.prog rxHint kk call dcall 35 [a0, a1, a2] A = f35 M call dcall a0.canon a1.canon a2.canon A := by
  kernel_rfl
theorem r35 (a0 a1 a2 : D) (A : St) : Run Tryd.prog rxA 35 [a0, a1, a2] A = f35 mL (Run Tryd.prog rxA) (Dcall Tryd.prog rxA) a0.canon a1.canon a2.canon A := (Run_eqN Tryd.prog rxA kk rfl rfl _ _).trans (b35 mL (Run Tryd.prog rxA) (Dcall Tryd.prog rxA) a0 a1 a2 A)
noncomputable def f36_s0 (M : Mode) (call : CallT) (dcall : DcallT) (A : St) (e : Env) (Av5 : St) : (Option ((Env × St) ⊕ (Res × St))) :=
(bn (fieldAddrO 2 (e.g 2)) fun x0 =>
(bn (mp (loadO false 1 x0 Av5) fun x1 => (x1, Av5)) fun x1 =>
(bn (lenSlO x1.1) fun x2 =>
(bn (binO .lss 3 false (e.g 5) x2) fun x3 =>
(bn (D.bool? x3) fun x4 =>
(ifb x4 (bn (fieldAddrO 2 (e.g 2)) fun x5 =>
(bn (mp (loadO false 1 x5 x1.2) fun x6 => (x6, x1.2)) fun x6 =>
(bn (indexAddrO 3 true x6.1 (e.g 5)) fun x7 =>
(bn (mp (loadO true 3 x7 x6.2) fun x8 => (x8, x6.2)) fun x8 =>
(bn (binO .sub 3 true (e.g 1) (n64 1)) fun x9 =>
(bn (call 36 [x8.1, x9] x8.2) fun x10 =>
(Res.elim x10.1 (fun x11 => (bn (D.bool? x11) fun x12 =>
(ifb x12 (Option.map (Sum.inr ) (bn (leavesD dcall (fun (x13 : St) => (some (D.bool true))) (e).df none x10.2) fun x13 =>
(leaveM M RetK.can A x13.1 x13.2)))
(bn (binO .add 3 true (e.g 5) (n64 1)) fun x13 =>
(@Mode.gk M ((Env × St) ⊕ (Res × St)) Av5 x10.2 (some (Sum.inl ((Env.mk (sp [(1, (D.shut (List.length Av5) (e.g 1))), (0, (D.shut (List.length Av5) (e.g 2))), (2, (D.shut (List.length Av5) x13))] 17) (List.map (fun (x14 : (D × (List D))) => ((D.shut (List.length Av5) x14.1), (D.shutL (List.length Av5) x14.2))) (e).df)), (List.take (List.length Av5) x10.2))))))))) (fun x11 => (Option.map (Sum.inr ) (bn (leavesD dcall (fun (x12 : St) => (some (e.g 4))) (e).df (some x11) x10.2) fun x12 =>
(leaveM M RetK.can A x12.1 x12.2)))))))))))
(Option.map (Sum.inr ) (bn (leavesD dcall (fun (x5 : St) => (some (D.bool false))) (e).df none x1.2) fun x5 =>
(leaveM M RetK.can A x5.1 x5.2)))))))))
noncomputable def f36 (M : Mode) (call : CallT) (dcall : DcallT) (a0 : D) (a1 : D) (A : St) : (Option (Res × St)) :=
(bn (boxO true a0 A) fun x0 =>
(bn (binO .leq 3 true a1 (n64 0)) fun x1 =>
(bn (D.bool? x1) fun x2 =>
(ifb x2 (leaveM M RetK.can A (Res.ret (D.bool true)) x0.2)
(@Mode.it M (Res × St) (f36_s0 M call dcall A) (Env.mk (sp [(1, a1), (0, x0.1), (2, (n64 0))] 17) []) x0.2)))))
theorem b36 (M : Mode) (call : CallT) (dcall : DcallT) (a0 a1 : D) (A : St) : bodyN M Tryd.prog rxHint kk call dcall 36 [a0, a1] A = f36 M call dcall a0.canon a1.canon A := by
  kernel_rfl
theorem r36 (a0 a1 : D) (A : St) : Run Tryd.prog rxA 36 [a0, a1] A = f36 mL (Run Tryd.prog rxA) (Dcall Tryd.prog rxA) a0.canon a1.canon A := (Run_eqN Tryd.prog rxA kk rfl rfl _ _).trans (b36 mL (Run Tryd.prog rxA) (Dcall Tryd.prog rxA) a0 a1 A)
noncomputable def f37_s0 (M : Mode) (call : CallT) (dcall : DcallT) (A : St) (e : Env) (Av5 : St) : (Option ((Env × St) ⊕ (Res × St))) :=
(bn (fieldAddrO 2 (e.g 1)) fun x0 =>
(bn (mp (loadO false 1 x0 Av5) fun x1 => (x1, Av5)) fun x1 =>
(bn (lenSlO x1.1) fun x2 =>
(bn (binO .lss 3 false (e.g 4) x2) fun x3 =>
(bn (D.bool? x3) fun x4 =>
(ifb x4 (bn (guardB true (e.g 3)) fun x5 =>
(bn (ifb x5 (fieldAddrO 2 (e.g 1))
(some (D.tup []))) fun x6 =>
(bn (guardB true (e.g 3)) fun x7 =>
(bn (ifb x7 (mp (loadO false 1 x6 x1.2) fun x8 => (x8, x1.2))
(some ((D.tup []), x1.2))) fun x8 =>
(bn (guardB true (e.g 3)) fun x9 =>
(bn (ifb x9 (some (e.g 4))
(some (D.tup []))) fun x10 =>
(bn (guardB true (e.g 3)) fun x11 =>
(bn (ifb x11 (indexAddrO 3 true x8.1 x10)
(some (D.tup []))) fun x12 =>
(bn (guardB true (e.g 3)) fun x13 =>
(bn (ifb x13 (mp (loadO true 3 x12 x8.2) fun x14 => (x14, x8.2))
(some ((D.tup []), x8.2))) fun x14 =>
(bn (guardB true (e.g 3)) fun x15 =>
(bn (ifb x15 (call 37 [x14.1] x14.2)
(some ((Res.ret (D.tup [])), x14.2))) fun x16 =>
(Res.elim x16.1 (fun x17 => (bn (mp (D.bool? (e.g 3)) fun x18 => (ifb x18 x17
(D.bool false))) fun x18 =>
(bn (binO .add 3 true (e.g 4) (n64 1)) fun x19 =>
(@Mode.gk M ((Env × St) ⊕ (Res × St)) Av5 x16.2 (some (Sum.inl ((Env.mk (sp [(1, (D.shut (List.length Av5) (e.g 1))), (1, (D.shut (List.length Av5) x18)), (0, (D.shut (List.length Av5) x19))] 19) (List.map (fun (x20 : (D × (List D))) => ((D.shut (List.length Av5) x20.1), (D.shutL (List.length Av5) x20.2))) (e).df)), (List.take (List.length Av5) x16.2)))))))) (fun x17 => (Option.map (Sum.inr ) (bn (leavesD dcall (fun (x18 : St) => (some (e.g 2))) (e).df (some x17) x16.2) fun x18 =>
(leaveM M RetK.can A x18.1 x18.2)))))))))))))))))
(Option.map (Sum.inr ) (bn (leavesD dcall (fun (x5 : St) => (some (e.g 3))) (e).df none x1.2) fun x5 =>
(leaveM M RetK.can A x5.1 x5.2)))))))))
noncomputable def f37 (M : Mode) (call : CallT) (dcall : DcallT) (a0 : D) (A : St) : (Option (Res × St)) :=
(bn (boxO true a0 A) fun x0 =>
(bn (mp (loadO true 3 x0.1 x0.2) fun x1 => (x1, x0.2)) fun x1 =>
(bn (call 57 [x1.1] x1.2) fun x2 =>
(Res.elim x2.1 (fun x3 => (@Mode.it M (Res × St) (f37_s0 M call dcall A) (Env.mk (sp [(1, x0.1), (1, x3), (0, (n64 0))] 19) []) x2.2)) (fun x3 => (leaveM M RetK.can A (Res.pan x3) x2.2))))))
theorem b37 (M : Mode) (call : CallT) (dcall : DcallT) (a0 : D) (A : St) : bodyN M Tryd.prog rxHint kk call dcall 37 [a0] A = f37 M call dcall a0.canon A := by
  kernel_rfl
theorem r37 (a0 : D) (A : St) : Run Tryd.prog rxA 37 [a0] A = f37 mL (Run Tryd.prog rxA) (Dcall Tryd.prog rxA) a0.canon A := (Run_eqN Tryd.prog rxA kk rfl rfl _ _).trans (b37 mL (Run Tryd.prog rxA) (Dcall Tryd.prog rxA) a0 A)
noncomputable def f38_s0 (M : Mode) (call : CallT) (dcall : DcallT) (A : St) (e : Env) (Av5 : St) : (Option ((Env × St) ⊕ (Res × St))) :=
(bn (binO .lss 3 false (e.g 9) (e.g 8)) fun x0 =>
(bn (D.bool? x0) fun x1 =>
(ifb x1 (bn (indexAddrO 1 false (e.g 7) (e.g 9)) fun x2 =>
(bn (mp (loadO false 1 x2 Av5) fun x3 => (x3, Av5)) fun x3 =>
(bn (mp (Option.map (D.sl Own.full 1) (sliceParts 1 false 0 [(0, x3.1)])) fun x4 => (x4, x3.2)) fun x4 =>
(bn (call 58 [x3.1, x4.1] x4.2) fun x5 =>
(Res.elim x5.1 (fun x6 => (bn (unD UnOp.not x6) fun x7 =>
(bn (D.bool? x7) fun x8 =>
(ifb x8 (Option.map (Sum.inr ) (bn (leavesD dcall (fun (x9 : St) => (some (D.tup [(D.str []), (n64 31)]))) (e).df none x5.2) fun x9 =>
(leaveM M RetK.can A x9.1 x9.2)))
(bn (binO .gtr 3 true (e.g 9) (n64 0)) fun x9 =>
(bn (guardB true x9) fun x10 =>
(bn (ifb x10 (some (e.g 0))
(some (D.tup []))) fun x11 =>
(bn (guardB true x9) fun x12 =>
(bn (ifb x12 (some (e.g 9))
(some (D.tup []))) fun x13 =>
(bn (guardB true x9) fun x14 =>
(bn (ifb x14 (binO .sub 3 true x13 (n64 1))
(some (D.tup []))) fun x15 =>
(bn (guardB true x9) fun x16 =>
(bn (ifb x16 (indexAddrO 1 false x11 x15)
(some (D.tup []))) fun x17 =>
(bn (guardB true x9) fun x18 =>
(bn (ifb x18 (mp (mp (loadO false 1 x17 x5.2) fun x19 => (x19, x5.2)) fun x19 => x19.1)
(some (D.tup []))) fun x19 =>
(bn (guardB true x9) fun x20 =>
(bn (ifb x20 (some x3.1)
(some (D.tup []))) fun x21 =>
(bn (guardB true x9) fun x22 =>
(bn (ifb x22 (binO .add 3 false x19 x21)
(some (D.tup []))) fun x23 =>
(bn (guardB true x9) fun x24 =>
(bn (ifb x24 (some (e.g 0))
(some (D.tup []))) fun x25 =>
(bn (guardB true x9) fun x26 =>
(bn (ifb x26 (some (e.g 9))
(some (D.tup []))) fun x27 =>
(bn (guardB true x9) fun x28 =>
(bn (ifb x28 (binO .sub 3 true x27 (n64 1))
(some (D.tup []))) fun x29 =>
(bn (guardB true x9) fun x30 =>
(bn (ifb x30 (indexAddrO 1 false x25 x29)
(some (D.tup []))) fun x31 =>
(bn (guardB true x9) fun x32 =>
(bn (ifb x32 (mp (mp (loadO false 1 x31 x5.2) fun x33 => (x33, x5.2)) fun x33 => x33.1)
(some (D.tup []))) fun x33 =>
(bn (guardB true x9) fun x34 =>
(bn (ifb x34 (some x3.1)
(some (D.tup []))) fun x35 =>
(bn (guardB true x9) fun x36 =>
(bn (ifb x36 (mp (mp (Option.map (D.sl Own.full 1) (sliceParts 1 false 0 [(0, x33), (1, x35)])) fun x37 => (x37, ([] : St))) fun x37 => x37.1)
(some (D.tup []))) fun x37 =>
(bn (guardB true x9) fun x38 =>
(bn (ifb x38 (call 58 [x23, x37] x5.2)
(some ((Res.ret (D.tup [])), x5.2))) fun x39 =>
(Res.elim x39.1 (fun x40 => (bn (guardB true x9) fun x41 =>
(bn (ifb x41 (unD UnOp.not x40)
(some (D.tup []))) fun x42 =>
(bn (mp (D.bool? x9) fun x43 => (ifb x43 x42
(D.bool false))) fun x43 =>
(@Mode.gs M ((Env × St) ⊕ (Res × St)) True true (bn (D.bool? x43) fun x44 =>
(bn (ifb x44 (bn (mp (Option.map (D.sl Own.full 1) (sliceParts 1 false 0 [(0, (D.int IntKind.u8 (32 : Int)))])) fun x45 => (x45, x39.2)) fun x45 =>
(bn (appendO 1 1 (e.g 4) x45.1 x45.2) fun x46 =>
(some (Sum.inl ((Env.mk (sp [(0, (e.g 0)), (3, x46.1), (1, x3.1), (0, (e.g 7)), (0, (e.g 8)), (0, (e.g 9))] 38) (e).df), x46.2)))))
(some (Sum.inl ((Env.mk (sp [(0, (e.g 0)), (3, (e.g 4)), (1, x3.1), (0, (e.g 7)), (0, (e.g 8)), (0, (e.g 9))] 38) (e).df), x39.2)))) fun x45 =>
(Sum.elim (fun (x46 : (Env × St)) => (bn (appendO 1 1 (x46.1.g 4) (x46.1.g 6) x46.2) fun x47 =>
(bn (binO .add 3 true (x46.1.g 9) (n64 1)) fun x48 =>
(some (Sum.inl ((Env.mk (sp [(0, (x46.1.g 0)), (3, x47.1), (2, (x46.1.g 7)), (0, (x46.1.g 8)), (0, x48)] 38) (x46.1).df), x47.2)))))) (fun (x46 : ((Env × St) ⊕ (Res × St))) => (some x46)) x45)))))))) (fun x40 => (@Mode.gs M ((Env × St) ⊕ (Res × St)) True true (Option.map (Sum.inr ) (bn (leavesD dcall (fun (x41 : St) => (some (D.tup [(e.g 2), (e.g 3)]))) (e).df (some x40) x39.2) fun x41 =>
(leaveM M RetK.can A x41.1 x41.2))))))))))))))))))))))))))))))))))))))))) (fun x6 => (Option.map (Sum.inr ) (bn (leavesD dcall (fun (x7 : St) => (some (D.tup [(e.g 2), (e.g 3)]))) (e).df (some x6) x5.2) fun x7 =>
(leaveM M RetK.can A x7.1 x7.2)))))))))
(Option.map (Sum.inr ) (bn (convO ConvK.bytesStr (e.g 4)) fun x2 =>
(bn (leavesD dcall (fun (x3 : St) => (some (D.tup [x2, (n64 0)]))) (e).df none Av5) fun x3 =>
(leaveM M RetK.can A x3.1 x3.2)))))))
noncomputable def f38 (M : Mode) (call : CallT) (dcall : DcallT) (a0 : D) (A : St) : (Option (Res × St)) :=
(bn (lenSlO a0) fun x0 =>
(@Mode.it M (Res × St) (f38_s0 M call dcall A) (Env.mk (sp [(0, a0), (3, (D.sl Own.full 0 [])), (2, a0), (0, x0), (0, (n64 0))] 38) []) A))
theorem b38 (M : Mode) (call : CallT) (dcall : DcallT) (a0 : D) (A : St) : bodyN M Tryd.prog rxHint kk call dcall 38 [a0] A = f38 M call dcall a0.canon A := by
  kernel_rfl
noncomputable def f39_s0 (M : Mode) (call : CallT) (dcall : DcallT) (A : St) (e : Env) (Av5 : St) : (Option ((Env × St) ⊕ (Res × St))) :=
(bn (binO .lss 3 false (e.g 41) (e.g 40)) fun x0 =>
(bn (D.bool? x0) fun x1 =>
(ifb x1 (bn (indexAddrO 3 true (e.g 39) (e.g 41)) fun x2 =>
(bn (mp (loadO true 3 x2 Av5) fun x3 => (x3, Av5)) fun x3 =>
(bn (allocO [(n64 0), (D.str []), (D.sl Own.full 0 [])] x3.2) fun x4 =>
(bn (mp (storeO true 3 x4.1 x3.1 x4.2) fun x5 => ((D.tup []), x5)) fun x5 =>
(bn (binO .gtr 3 true (e.g 41) (n64 0)) fun x6 =>
(bn (D.bool? x6) fun x7 =>
(bn (ifb x7 (bn (mp (Option.map (D.sl Own.full 1) (sliceParts 1 false 0 [(0, (D.str [(124 : UInt8)]))])) fun x8 => (x8, x5.2)) fun x8 =>
(bn (appendO 1 16 (e.g 5) x8.1 x8.2) fun x9 =>
(some (Sum.inl ((Env.mk (sp [(5, x9.1), (1, x4.1), (31, (e.g 39)), (0, (e.g 40)), (0, (e.g 41))] 49) (e).df), x9.2)))))
(some (Sum.inl ((Env.mk (sp [(5, (e.g 5)), (1, x4.1), (31, (e.g 39)), (0, (e.g 40)), (0, (e.g 41))] 49) (e).df), x5.2)))) fun x8 =>
(Sum.elim (fun (x9 : (Env × St)) => (bn (mp (loadO true 3 (x9.1.g 7) x9.2) fun x10 => (x10, x9.2)) fun x10 =>
(bn (call 39 [x10.1, (n64 2)] x10.2) fun x11 =>
(Res.elim x11.1 (fun x12 => (bn (appendO 1 16 (x9.1.g 5) x12 x11.2) fun x13 =>
(bn (binO .add 3 true (x9.1.g 41) (n64 1)) fun x14 =>
(some (Sum.inl ((Env.mk (sp [(5, x13.1), (33, (x9.1.g 39)), (0, (x9.1.g 40)), (0, x14)] 49) (x9.1).df), x13.2)))))) (fun x12 => (Option.map (Sum.inr ) (bn (leavesD dcall (fun (x13 : St) => (some (x9.1.g 4))) (x9.1).df (some x12) x11.2) fun x13 =>
(leaveM M RetK.own A x13.1 x13.2)))))))) (fun (x9 : ((Env × St) ⊕ (Res × St))) => (some x9)) x8))))))))
(Option.map (Sum.inr ) (bn (leavesD dcall (fun (x2 : St) => (some (e.g 5))) (e).df none Av5) fun x2 =>
(leaveM M RetK.own A x2.1 x2.2))))))
noncomputable def f39_s1 (M : Mode) (call : CallT) (dcall : DcallT) (A : St) (e : Env) (Av5 : St) : (Option ((Env × St) ⊕ (Res × St))) :=
(bn (binO .lss 3 false (e.g 67) (e.g 66)) fun x0 =>
(bn (D.bool? x0) fun x1 =>
(ifb x1 (bn (indexAddrO 3 true (e.g 65) (e.g 67)) fun x2 =>
(bn (mp (loadO true 3 x2 Av5) fun x3 => (x3, Av5)) fun x3 =>
(bn (allocO [(n64 0), (D.str []), (D.sl Own.full 0 [])] x3.2) fun x4 =>
(bn (mp (storeO true 3 x4.1 x3.1 x4.2) fun x5 => ((D.tup []), x5)) fun x5 =>
(bn (mp (loadO true 3 x4.1 x5.2) fun x6 => (x6, x5.2)) fun x6 =>
(bn (call 39 [x6.1, (n64 2)] x6.2) fun x7 =>
(Res.elim x7.1 (fun x8 => (bn (appendO 1 16 (e.g 5) x8 x7.2) fun x9 =>
(bn (binO .add 3 true (e.g 67) (n64 1)) fun x10 =>
(some (Sum.inl ((Env.mk (sp [(5, x9.1), (59, (e.g 65)), (0, (e.g 66)), (0, x10)] 23) (e).df), x9.2)))))) (fun x8 => (Option.map (Sum.inr ) (bn (leavesD dcall (fun (x9 : St) => (some (e.g 4))) (e).df (some x8) x7.2) fun x9 =>
(leaveM M RetK.own A x9.1 x9.2)))))))))))
(Option.map (Sum.inr ) (bn (leavesD dcall (fun (x2 : St) => (some (e.g 5))) (e).df none Av5) fun x2 =>
(leaveM M RetK.own A x2.1 x2.2))))))
noncomputable def f39 (M : Mode) (call : CallT) (dcall : DcallT) (a0 : D) (a1 : D) (A : St) : (Option (Res × St)) :=
(bn (boxO true a0 A) fun x0 =>
(bn (mp (loadO true 3 x0.1 x0.2) fun x1 => (x1, x0.2)) fun x1 =>
(bn (call 59 [x1.1] x1.2) fun x2 =>
(Res.elim x2.1 (fun x3 => (bn (binO .lss 3 false x3 a1) fun x4 =>
(bn (D.bool? x4) fun x5 =>
(ifb x5 (bn (mp (Option.map (D.sl Own.full 1) (sliceParts 1 false 0 [(0, (D.str [(40 : UInt8)]))])) fun x6 => (x6, x2.2)) fun x6 =>
(bn (mp (loadO true 3 x0.1 x6.2) fun x7 => (x7, x6.2)) fun x7 =>
(bn (call 39 [x7.1, (n64 1)] x7.2) fun x8 =>
(Res.elim x8.1 (fun x9 => (bn (mp (Option.map (D.sl Own.full 1) (sliceParts 1 false 0 [(0, (D.str [(41 : UInt8)]))])) fun x10 => (x10, x8.2)) fun x10 =>
(bn (mp (Option.map (D.sl Own.full 1) (sliceParts 1 false 0 [(0, x6.1), (1, x9), (2, x10.1)])) fun x11 => (x11, x10.2)) fun x11 =>
(bn (call 60 [x11.1] x11.2) fun x12 =>
(Res.elim x12.1 (fun x13 => (leaveM M RetK.own A (Res.ret x13) x12.2)) (fun x13 => (leaveM M RetK.own A (Res.pan x13) x12.2))))))) (fun x9 => (leaveM M RetK.own A (Res.pan x9) x8.2))))))
(bn (fieldAddrO 0 x0.1) fun x6 =>
(bn (mp (loadO false 1 x6 x2.2) fun x7 => (x7, x2.2)) fun x7 =>
(bn (binO .eql 3 true x7.1 (n64 1)) fun x8 =>
(bn (D.bool? x8) fun x9 =>
(ifb x9 (bn (fieldAddrO 1 x0.1) fun x10 =>
(bn (mp (loadO false 1 x10 x7.2) fun x11 => (x11, x7.2)) fun x11 =>
(bn (mp (Option.map (D.sl Own.full 1) (sliceParts 1 false 0 [(0, x11.1)])) fun x12 => (x12, x11.2)) fun x12 =>
(leaveM M RetK.own A (Res.ret x12.1) x12.2))))
(bn (binO .eql 3 true x7.1 (n64 2)) fun x10 =>
(bn (D.bool? x10) fun x11 =>
(ifb x11 (bn (fieldAddrO 1 x0.1) fun x12 =>
(bn (mp (loadO false 1 x12 x7.2) fun x13 => (x13, x7.2)) fun x13 =>
(bn (mp (Option.map (D.sl Own.full 1) (sliceParts 1 false 0 [(0, (D.str [(36 : UInt8)])), (1, x13.1)])) fun x14 => (x14, x13.2)) fun x14 =>
(leaveM M RetK.own A (Res.ret x14.1) x14.2))))
(bn (binO .eql 3 true x7.1 (n64 3)) fun x12 =>
(bn (D.bool? x12) fun x13 =>
(ifb x13 (bn (mp (Option.map (D.sl Own.full 1) (sliceParts 1 false 0 [(0, (D.str [(46 : UInt8)]))])) fun x14 => (x14, x7.2)) fun x14 =>
(leaveM M RetK.own A (Res.ret x14.1) x14.2))
(bn (binO .eql 3 true x7.1 (n64 5)) fun x14 =>
(bn (D.bool? x14) fun x15 =>
(ifb x15 (bn (fieldAddrO 2 x0.1) fun x16 =>
(bn (mp (loadO false 1 x16 x7.2) fun x17 => (x17, x7.2)) fun x17 =>
(bn (lenSlO x17.1) fun x18 =>
(@Mode.it M (Res × St) (f39_s0 M call dcall A) (Env.mk (sp [(5, (D.sl Own.full 0 [])), (33, x17.1), (0, x18), (0, (n64 0))] 49) []) x17.2))))
(bn (binO .eql 3 true x7.1 (n64 4)) fun x16 =>
(bn (D.bool? x16) fun x17 =>
(ifb x17 (bn (fieldAddrO 2 x0.1) fun x18 =>
(bn (mp (loadO false 1 x18 x7.2) fun x19 => (x19, x7.2)) fun x19 =>
(bn (lenSlO x19.1) fun x20 =>
(bn (binO .eql 3 true x20 (n64 0)) fun x21 =>
(bn (D.bool? x21) fun x22 =>
(ifb x22 (bn (mp (Option.map (D.sl Own.full 1) (sliceParts 1 false 0 [(0, (D.str [(40 : UInt8)])), (1, (D.str [(41 : UInt8)]))])) fun x23 => (x23, x19.2)) fun x23 =>
(leaveM M RetK.own A (Res.ret x23.1) x23.2))
(bn (fieldAddrO 2 x0.1) fun x23 =>
(bn (mp (loadO false 1 x23 x19.2) fun x24 => (x24, x19.2)) fun x24 =>
(bn (lenSlO x24.1) fun x25 =>
(@Mode.it M (Res × St) (f39_s1 M call dcall A) (Env.mk (sp [(5, (D.sl Own.full 0 [])), (59, x24.1), (0, x25), (0, (n64 0))] 23) []) x24.2))))))))))
(bn (fieldAddrO 0 x0.1) fun x18 =>
(bn (mp (loadO false 1 x18 x7.2) fun x19 => (x19, x7.2)) fun x19 =>
(bn (binO .eql 3 true x19.1 (n64 7)) fun x20 =>
(bn (D.bool? x20) fun x21 =>
(bn (ifb x21 (some (Sum.inl ((Env.mk (sp [(2, x0.1), (7, (D.str [(43 : UInt8)]))] 80) []), x19.2)))
(bn (binO .eql 3 true x19.1 (n64 8)) fun x22 =>
(bn (D.bool? x22) fun x23 =>
(bn (ifb x23 (some (Sum.inl ((Env.mk (sp [(2, x0.1), (7, (D.str [(63 : UInt8)]))] 80) []), x19.2)))
(some (Sum.inl ((Env.mk (sp [(2, x0.1), (7, (D.str [(42 : UInt8)]))] 80) []), x19.2)))) fun x24 =>
(Sum.elim (fun (x25 : (Env × St)) => (some (Sum.inl ((Env.mk (sp [(2, (x25.1.g 2)), (7, (x25.1.g 10))] 80) (x25.1).df), x25.2)))) (fun (x25 : ((Env × St) ⊕ (Res × St))) => (some x25)) x24))))) fun x22 =>
(Sum.elim (fun (x23 : (Env × St)) => (bn (fieldAddrO 2 (x23.1.g 2)) fun x24 =>
(bn (mp (loadO false 1 x24 x23.2) fun x25 => (x25, x23.2)) fun x25 =>
(bn (indexAddrO 3 true x25.1 (n64 0)) fun x26 =>
(bn (mp (loadO true 3 x26 x25.2) fun x27 => (x27, x25.2)) fun x27 =>
(bn (call 39 [x27.1, (n64 3)] x27.2) fun x28 =>
(Res.elim x28.1 (fun x29 => (bn (mp (Option.map (D.sl Own.full 1) (sliceParts 1 false 0 [(0, (x23.1.g 10))])) fun x30 => (x30, x28.2)) fun x30 =>
(bn (appendO 1 16 x29 x30.1 x30.2) fun x31 =>
(bn (leavesD dcall (fun (x32 : St) => (some x31.1)) (x23.1).df none x31.2) fun x32 =>
(leaveM M RetK.own A x32.1 x32.2))))) (fun x29 => (bn (leavesD dcall (fun (x30 : St) => (some (x23.1.g 4))) (x23.1).df (some x29) x28.2) fun x30 =>
(leaveM M RetK.own A x30.1 x30.2)))))))))) (fun (x23 : (Res × St)) => (some x23)) x22))))))))))))))))))))))))))) (fun x3 => (leaveM M RetK.own A (Res.pan x3) x2.2))))))
theorem b39 (M : Mode) (call : CallT) (dcall : DcallT) (a0 a1 : D) (A : St) : bodyN M Tryd.prog rxHint kk call dcall 39 [a0, a1] A = f39 M call dcall a0.canon a1.canon A := by
  kernel_rfl
noncomputable def f40_s0 (M : Mode) (call : CallT) (dcall : DcallT) (A : St) (e : Env) (Av5 : St) : (Option ((Env × St) ⊕ (Res × St))) :=
(bn (lenSlO (e.g 0)) fun x0 =>
(bn (binO .lss 3 false (e.g 6) x0) fun x1 =>
(bn (D.bool? x1) fun x2 =>
(ifb x2 (bn (binO .gtr 3 true (e.g 6) (n64 0)) fun x3 =>
(bn (guardB true x3) fun x4 =>
(bn (ifb x4 (some (e.g 0))
(some (D.tup []))) fun x5 =>
(bn (guardB true x3) fun x6 =>
(bn (ifb x6 (some (e.g 6))
(some (D.tup []))) fun x7 =>
(bn (guardB true x3) fun x8 =>
(bn (ifb x8 (binO .sub 3 true x7 (n64 1))
(some (D.tup []))) fun x9 =>
(bn (guardB true x3) fun x10 =>
(bn (ifb x10 (indexAddrO 1 false x5 x9)
(some (D.tup []))) fun x11 =>
(bn (guardB true x3) fun x12 =>
(bn (ifb x12 (mp (mp (loadO false 1 x11 Av5) fun x13 => (x13, Av5)) fun x13 => x13.1)
(some (D.tup []))) fun x13 =>
(bn (guardB true x3) fun x14 =>
(bn (ifb x14 (some (e.g 0))
(some (D.tup []))) fun x15 =>
(bn (guardB true x3) fun x16 =>
(bn (ifb x16 (some (e.g 6))
(some (D.tup []))) fun x17 =>
(bn (guardB true x3) fun x18 =>
(bn (ifb x18 (indexAddrO 1 false x15 x17)
(some (D.tup []))) fun x19 =>
(bn (guardB true x3) fun x20 =>
(bn (ifb x20 (mp (mp (loadO false 1 x19 Av5) fun x21 => (x21, Av5)) fun x21 => x21.1)
(some (D.tup []))) fun x21 =>
(bn (guardB true x3) fun x22 =>
(bn (ifb x22 (call 62 [x13, x21] Av5)
(some ((Res.ret (D.tup [])), Av5))) fun x23 =>
(Res.elim x23.1 (fun x24 => (bn (mp (D.bool? x3) fun x25 => (ifb x25 x24
(D.bool false))) fun x25 =>
(@Mode.gs M ((Env × St) ⊕ (Res × St)) True true (bn (D.bool? x25) fun x26 =>
(bn (ifb x26 (bn (binO .add 3 true (e.g 5) (D.str [(32 : UInt8)])) fun x27 =>
(some (Sum.inl ((Env.mk (sp [(0, (e.g 0)), (4, x27), (0, (e.g 6))] 41) (e).df), x23.2))))
(some (Sum.inl ((Env.mk (sp [(0, (e.g 0)), (4, (e.g 5)), (0, (e.g 6))] 41) (e).df), x23.2)))) fun x27 =>
(Sum.elim (fun (x28 : (Env × St)) => (bn (indexAddrO 1 false (x28.1.g 0) (x28.1.g 6)) fun x29 =>
(bn (mp (loadO false 1 x29 x28.2) fun x30 => (x30, x28.2)) fun x30 =>
(bn (binO .add 3 false (x28.1.g 5) x30.1) fun x31 =>
(bn (binO .add 3 true (x28.1.g 6) (n64 1)) fun x32 =>
(some (Sum.inl ((Env.mk (sp [(0, (x28.1.g 0)), (4, x31), (0, x32)] 41) (x28.1).df), x30.2)))))))) (fun (x28 : ((Env × St) ⊕ (Res × St))) => (some x28)) x27)))))) (fun x24 => (@Mode.gs M ((Env × St) ⊕ (Res × St)) True true (Option.map (Sum.inr ) (bn (leavesD dcall (fun (x25 : St) => (some (D.tup [(e.g 2), (e.g 3)]))) (e).df (some x24) x23.2) fun x25 =>
(leaveM M RetK.can A x25.1 x25.2)))))))))))))))))))))))))))
(Option.map (Sum.inr ) (bn (leavesD dcall (fun (x3 : St) => (some (D.tup [(e.g 5), (n64 0)]))) (e).df none Av5) fun x3 =>
(leaveM M RetK.can A x3.1 x3.2)))))))
noncomputable def f40_s1 (M : Mode) (call : CallT) (dcall : DcallT) (A : St) (e : Env) (Av5 : St) : (Option ((Env × St) ⊕ (Res × St))) :=
(bn (lenSlO (e.g 0)) fun x0 =>
(bn (binO .lss 3 false (e.g 4) x0) fun x1 =>
(bn (D.bool? x1) fun x2 =>
(ifb x2 (bn (indexAddrO 1 false (e.g 0) (e.g 4)) fun x3 =>
(bn (mp (loadO false 1 x3 Av5) fun x4 => (x4, Av5)) fun x4 =>
(bn (call 61 [x4.1] x4.2) fun x5 =>
(Res.elim x5.1 (fun x6 => (bn (unD UnOp.not x6) fun x7 =>
(bn (D.bool? x7) fun x8 =>
(ifb x8 (Option.map (Sum.inr ) (bn (leavesD dcall (fun (x9 : St) => (some (D.tup [(D.str []), (n64 31)]))) (e).df none x5.2) fun x9 =>
(leaveM M RetK.can A x9.1 x9.2)))
(bn (binO .add 3 true (e.g 4) (n64 1)) fun x9 =>
(some (Sum.inl ((Env.mk (sp [(0, (e.g 0)), (3, x9)] 43) (e).df), x5.2)))))))) (fun x6 => (Option.map (Sum.inr ) (bn (leavesD dcall (fun (x7 : St) => (some (D.tup [(e.g 2), (e.g 3)]))) (e).df (some x6) x5.2) fun x7 =>
(leaveM M RetK.can A x7.1 x7.2))))))))
(Option.map (Sum.inr ) (@Mode.it M (Res × St) (f40_s0 M call dcall A) (Env.mk (sp [(0, (e.g 0)), (4, (D.str [])), (0, (n64 0))] 41) (e).df) Av5))))))
noncomputable def f40 (M : Mode) (call : CallT) (dcall : DcallT) (a0 : D) (A : St) : (Option (Res × St)) :=
(@Mode.it M (Res × St) (f40_s1 M call dcall A) (Env.mk (sp [(0, a0), (3, (n64 0))] 43) []) A)
theorem b40 (M : Mode) (call : CallT) (dcall : DcallT) (a0 : D) (A : St) : bodyN M Tryd.prog rxHint kk call dcall 40 [a0] A = f40 M call dcall a0.canon A := by
  kernel_rfl
noncomputable def f41_s0 (M : Mode) (call : CallT) (dcall : DcallT) (A : St) (e : Env) (Av5 : St) : (Option ((Env × St) ⊕ (Res × St))) :=
(bn (fieldAddrO 2 (e.g 3)) fun x0 =>
(bn (mp (loadO false 1 x0 Av5) fun x1 => (x1, Av5)) fun x1 =>
(bn (lenSlO x1.1) fun x2 =>
(bn (binO .lss 3 false (e.g 8) x2) fun x3 =>
(bn (D.bool? x3) fun x4 =>
(ifb x4 (bn (fieldAddrO 2 (e.g 3)) fun x5 =>
(bn (mp (loadO false 1 x5 x1.2) fun x6 => (x6, x1.2)) fun x6 =>
(bn (indexAddrO 3 true x6.1 (e.g 8)) fun x7 =>
(bn (mp (loadO true 3 x7 x6.2) fun x8 => (x8, x6.2)) fun x8 =>
(bn (call 41 [x8.1, (n64 5), (n64 5)] x8.2) fun x9 =>
(Res.elim x9.1 (fun x10 => (bn (appendO 1 16 (e.g 7) x10 x9.2) fun x11 =>
(bn (binO .add 3 true (e.g 8) (n64 1)) fun x12 =>
(some (Sum.inl ((Env.mk (sp [(3, (e.g 3)), (3, x11.1), (0, x12)] 104) (e).df), x11.2)))))) (fun x10 => (Option.map (Sum.inr ) (bn (leavesD dcall (fun (x11 : St) => (some (e.g 6))) (e).df (some x10) x9.2) fun x11 =>
(leaveM M RetK.own A x11.1 x11.2))))))))))
(Option.map (Sum.inr ) (bn (leavesD dcall (fun (x5 : St) => (some (e.g 7))) (e).df none x1.2) fun x5 =>
(leaveM M RetK.own A x5.1 x5.2)))))))))
noncomputable def f41_s1 (M : Mode) (call : CallT) (dcall : DcallT) (A : St) (e : Env) (Av5 : St) : (Option ((Env × St) ⊕ (Res × St))) :=
(bn (fieldAddrO 2 (e.g 3)) fun x0 =>
(bn (mp (loadO false 1 x0 Av5) fun x1 => (x1, Av5)) fun x1 =>
(bn (lenSlO x1.1) fun x2 =>
(bn (binO .lss 3 false (e.g 9) x2) fun x3 =>
(bn (D.bool? x3) fun x4 =>
(ifb x4 (bn (binO .gtr 3 true (e.g 9) (n64 0)) fun x5 =>
(bn (D.bool? x5) fun x6 =>
(bn (ifb x6 (bn (mp (Option.map (D.sl Own.full 1) (sliceParts 1 false 0 [(0, (D.str [(124 : UInt8)]))])) fun x7 => (x7, x1.2)) fun x7 =>
(bn (appendO 1 16 (e.g 7) x7.1 x7.2) fun x8 =>
(some (Sum.inl ((Env.mk (sp [(3, (e.g 3)), (3, x8.1), (1, (e.g 9))] 103) (e).df), x8.2)))))
(some (Sum.inl ((Env.mk (sp [(3, (e.g 3)), (3, (e.g 7)), (1, (e.g 9))] 103) (e).df), x1.2)))) fun x7 =>
(Sum.elim (fun (x8 : (Env × St)) => (bn (fieldAddrO 2 (x8.1.g 3)) fun x9 =>
(bn (mp (loadO false 1 x9 x8.2) fun x10 => (x10, x8.2)) fun x10 =>
(bn (indexAddrO 3 true x10.1 (x8.1.g 9)) fun x11 =>
(bn (mp (loadO true 3 x11 x10.2) fun x12 => (x12, x10.2)) fun x12 =>
(bn (call 41 [x12.1, (n64 0), (n64 0)] x12.2) fun x13 =>
(Res.elim x13.1 (fun x14 => (bn (appendO 1 16 (x8.1.g 7) x14 x13.2) fun x15 =>
(bn (binO .add 3 true (x8.1.g 9) (n64 1)) fun x16 =>
(some (Sum.inl ((Env.mk (sp [(3, (x8.1.g 3)), (3, x15.1), (1, x16)] 103) (x8.1).df), x15.2)))))) (fun x14 => (Option.map (Sum.inr ) (bn (leavesD dcall (fun (x15 : St) => (some (x8.1.g 6))) (x8.1).df (some x14) x13.2) fun x15 =>
(leaveM M RetK.own A x15.1 x15.2))))))))))) (fun (x8 : ((Env × St) ⊕ (Res × St))) => (some x8)) x7))))
(Option.map (Sum.inr ) (bn (leavesD dcall (fun (x5 : St) => (some (e.g 7))) (e).df none x1.2) fun x5 =>
(leaveM M RetK.own A x5.1 x5.2)))))))))
noncomputable def f41 (M : Mode) (call : CallT) (dcall : DcallT) (a0 : D) (a1 : D) (a2 : D) (A : St) : (Option (Res × St)) :=
(bn (boxO true a0 A) fun x0 =>
(bn (fieldAddrO 0 x0.1) fun x1 =>
(bn (mp (loadO false 1 x1 x0.2) fun x2 => (x2, x0.2)) fun x2 =>
(bn (binO .eql 3 false x2.1 a1) fun x3 =>
(bn (guardB false x3) fun x4 =>
(bn (ifb x4 (fieldAddrO 0 x0.1)
(some (D.tup []))) fun x5 =>
(bn (guardB false x3) fun x6 =>
(bn (ifb x6 (mp (loadO false 1 x5 x2.2) fun x7 => (x7, x2.2))
(some ((D.tup []), x2.2))) fun x7 =>
(bn (guardB false x3) fun x8 =>
(bn (ifb x8 (some a2)
(some (D.tup []))) fun x9 =>
(bn (guardB false x3) fun x10 =>
(bn (ifb x10 (binO .eql 3 false x7.1 x9)
(some (D.tup []))) fun x11 =>
(bn (mp (D.bool? x3) fun x12 => (ifb x12 (D.bool true)
 x11)) fun x12 =>
(bn (guardB true x12) fun x13 =>
(bn (ifb x13 (fieldAddrO 2 x0.1)
(some (D.tup []))) fun x14 =>
(bn (guardB true x12) fun x15 =>
(bn (ifb x15 (mp (loadO false 1 x14 x7.2) fun x16 => (x16, x7.2))
(some ((D.tup []), x7.2))) fun x16 =>
(bn (guardB true x12) fun x17 =>
(bn (ifb x17 (lenSlO x16.1)
(some (D.tup []))) fun x18 =>
(bn (guardB true x12) fun x19 =>
(bn (ifb x19 (binO .gtr 3 true x18 (n64 0))
(some (D.tup []))) fun x20 =>
(bn (mp (D.bool? x12) fun x21 => (ifb x21 x20
(D.bool false))) fun x21 =>
(bn (D.bool? x21) fun x22 =>
(ifb x22 (bn (mp (Option.map (D.sl Own.full 1) (sliceParts 1 false 0 [(0, (D.str [(40 : UInt8)]))])) fun x23 => (x23, x16.2)) fun x23 =>
(bn (mp (loadO true 3 x0.1 x23.2) fun x24 => (x24, x23.2)) fun x24 =>
(bn (call 41 [x24.1, (n64 0), (n64 0)] x24.2) fun x25 =>
(Res.elim x25.1 (fun x26 => (bn (appendO 1 16 x23.1 x26 x25.2) fun x27 =>
(bn (mp (Option.map (D.sl Own.full 1) (sliceParts 1 false 0 [(0, (D.str [(41 : UInt8)]))])) fun x28 => (x28, x27.2)) fun x28 =>
(bn (appendO 1 16 x27.1 x28.1 x28.2) fun x29 =>
(leaveM M RetK.own A (Res.ret x29.1) x29.2))))) (fun x26 => (leaveM M RetK.own A (Res.pan x26) x25.2))))))
(bn (fieldAddrO 0 x0.1) fun x23 =>
(bn (mp (loadO false 1 x23 x16.2) fun x24 => (x24, x16.2)) fun x24 =>
(bn (binO .eql 3 true x24.1 (n64 1)) fun x25 =>
(bn (D.bool? x25) fun x26 =>
(ifb x26 (bn (fieldAddrO 1 x0.1) fun x27 =>
(bn (mp (loadO false 1 x27 x24.2) fun x28 => (x28, x24.2)) fun x28 =>
(bn (mp (Option.map (D.sl Own.full 1) (sliceParts 1 false 0 [(0, x28.1)])) fun x29 => (x29, x28.2)) fun x29 =>
(leaveM M RetK.own A (Res.ret x29.1) x29.2))))
(bn (binO .eql 3 true x24.1 (n64 2)) fun x27 =>
(bn (D.bool? x27) fun x28 =>
(ifb x28 (bn (fieldAddrO 1 x0.1) fun x29 =>
(bn (mp (loadO false 1 x29 x24.2) fun x30 => (x30, x24.2)) fun x30 =>
(bn (mp (Option.map (D.sl Own.full 1) (sliceParts 1 false 0 [(0, (D.str [(36 : UInt8)])), (1, x30.1)])) fun x31 => (x31, x30.2)) fun x31 =>
(leaveM M RetK.own A (Res.ret x31.1) x31.2))))
(bn (binO .eql 3 true x24.1 (n64 3)) fun x29 =>
(bn (D.bool? x29) fun x30 =>
(ifb x30 (bn (mp (Option.map (D.sl Own.full 1) (sliceParts 1 false 0 [(0, (D.str [(46 : UInt8)]))])) fun x31 => (x31, x24.2)) fun x31 =>
(leaveM M RetK.own A (Res.ret x31.1) x31.2))
(bn (binO .eql 3 true x24.1 (n64 4)) fun x31 =>
(bn (D.bool? x31) fun x32 =>
(ifb x32 (bn (fieldAddrO 2 x0.1) fun x33 =>
(bn (mp (loadO false 1 x33 x24.2) fun x34 => (x34, x24.2)) fun x34 =>
(bn (lenSlO x34.1) fun x35 =>
(bn (binO .eql 3 true x35 (n64 0)) fun x36 =>
(bn (D.bool? x36) fun x37 =>
(ifb x37 (bn (mp (Option.map (D.sl Own.full 1) (sliceParts 1 false 0 [(0, (D.str [(40 : UInt8)])), (1, (D.str [(41 : UInt8)]))])) fun x38 => (x38, x34.2)) fun x38 =>
(leaveM M RetK.own A (Res.ret x38.1) x38.2))
(@Mode.it M (Res × St) (f41_s0 M call dcall A) (Env.mk (sp [(3, x0.1), (3, (D.sl Own.full 0 [])), (0, (n64 0))] 104) []) x34.2)))))))
(bn (binO .eql 3 true x24.1 (n64 5)) fun x33 =>
(bn (D.bool? x33) fun x34 =>
(ifb x34 (@Mode.it M (Res × St) (f41_s1 M call dcall A) (Env.mk (sp [(3, x0.1), (3, (D.sl Own.full 0 [])), (1, (n64 0))] 103) []) x24.2)
(bn (fieldAddrO 2 x0.1) fun x35 =>
(bn (mp (loadO false 1 x35 x24.2) fun x36 => (x36, x24.2)) fun x36 =>
(bn (indexAddrO 3 true x36.1 (n64 0)) fun x37 =>
(bn (mp (loadO true 3 x37 x36.2) fun x38 => (x38, x36.2)) fun x38 =>
(bn (call 41 [x38.1, (n64 5), (n64 4)] x38.2) fun x39 =>
(Res.elim x39.1 (fun x40 => (bn (fieldAddrO 0 x0.1) fun x41 =>
(bn (mp (loadO false 1 x41 x39.2) fun x42 => (x42, x39.2)) fun x42 =>
(bn (binO .eql 3 true x42.1 (n64 6)) fun x43 =>
(bn (D.bool? x43) fun x44 =>
(ifb x44 (bn (mp (Option.map (D.sl Own.full 1) (sliceParts 1 false 0 [(0, (D.str [(42 : UInt8)]))])) fun x45 => (x45, x42.2)) fun x45 =>
(bn (appendO 1 16 x40 x45.1 x45.2) fun x46 =>
(leaveM M RetK.own A (Res.ret x46.1) x46.2)))
(bn (binO .eql 3 true x42.1 (n64 7)) fun x45 =>
(bn (D.bool? x45) fun x46 =>
(ifb x46 (bn (mp (Option.map (D.sl Own.full 1) (sliceParts 1 false 0 [(0, (D.str [(43 : UInt8)]))])) fun x47 => (x47, x42.2)) fun x47 =>
(bn (appendO 1 16 x40 x47.1 x47.2) fun x48 =>
(leaveM M RetK.own A (Res.ret x48.1) x48.2)))
(bn (mp (Option.map (D.sl Own.full 1) (sliceParts 1 false 0 [(0, (D.str [(63 : UInt8)]))])) fun x47 => (x47, x42.2)) fun x47 =>
(bn (appendO 1 16 x40 x47.1 x47.2) fun x48 =>
(leaveM M RetK.own A (Res.ret x48.1) x48.2)))))))))))) (fun x40 => (leaveM M RetK.own A (Res.pan x40) x39.2)))))))))))))))))))))))))))))))))))))))))))))))))
theorem b41 (M : Mode) (call : CallT) (dcall : DcallT) (a0 a1 a2 : D) (A : St) : bodyN M Tryd.prog rxHint kk call dcall 41 [a0, a1, a2] A = f41 M call dcall a0.canon a1.canon a2.canon A := by
  kernel_rfl
noncomputable def f42_s0 (M : Mode) (call : CallT) (dcall : DcallT) (A : St) (e : Env) (Av5 : St) : (Option ((Env × St) ⊕ (Res × St))) :=
(bn (binO .lss 3 false (e.g 25) (e.g 24)) fun x0 =>
(bn (D.bool? x0) fun x1 =>
(ifb x1 (bn (indexAddrO 3 true (e.g 23) (e.g 25)) fun x2 =>
(bn (mp (loadO true 3 x2 Av5) fun x3 => (x3, Av5)) fun x3 =>
(bn (allocO [(n64 0), (D.str []), (D.sl Own.full 0 [])] x3.2) fun x4 =>
(bn (mp (storeO true 3 x4.1 x3.1 x4.2) fun x5 => ((D.tup []), x5)) fun x5 =>
(bn (mp (loadO true 3 x4.1 x5.2) fun x6 => (x6, x5.2)) fun x6 =>
(bn (binO .sub 3 false (e.g 1) (e.g 9)) fun x7 =>
(bn (binO .sub 3 true (e.g 2) (n64 1)) fun x8 =>
(bn (call 42 [x6.1, x7, x8] x6.2) fun x9 =>
(Res.elim x9.1 (fun x10 => (bn (extractD x10 0) fun x11 =>
(bn (extractD x10 1) fun x12 =>
(bn (extractD x10 2) fun x13 =>
(bn (unD UnOp.not x13) fun x14 =>
(bn (D.bool? x14) fun x15 =>
(ifb x15 (Option.map (Sum.inr ) (bn (leavesD dcall (fun (x16 : St) => (some (D.tup [(n64 0), (n64 0), (D.bool false)]))) (e).df none x9.2) fun x16 =>
(leaveM M RetK.can A x16.1 x16.2)))
(bn (binO .add 3 false (e.g 9) x11) fun x16 =>
(bn (minMaxD true [(e.g 10), x12]) fun x17 =>
(bn (binO .add 3 true (e.g 25) (n64 1)) fun x18 =>
(@Mode.gk M ((Env × St) ⊕ (Res × St)) Av5 x9.2 (some (Sum.inl ((Env.mk (sp [(1, (D.shut (List.length Av5) (e.g 1))), (0, (D.shut (List.length Av5) (e.g 2))), (6, (D.shut (List.length Av5) x16)), (0, (D.shut (List.length Av5) x17)), (12, (D.shut (List.length Av5) (e.g 23))), (0, (D.shut (List.length Av5) (e.g 24))), (0, (D.shut (List.length Av5) x18))] 26) (List.map (fun (x19 : (D × (List D))) => ((D.shut (List.length Av5) x19.1), (D.shutL (List.length Av5) x19.2))) (e).df)), (List.take (List.length Av5) x9.2))))))))))))))) (fun x10 => (Option.map (Sum.inr ) (bn (leavesD dcall (fun (x11 : St) => (some (D.tup [(e.g 6), (e.g 7), (e.g 8)]))) (e).df (some x10) x9.2) fun x11 =>
(leaveM M RetK.can A x11.1 x11.2)))))))))))))
(Option.map (Sum.inr ) (bn (binO .add 3 true (e.g 10) (n64 1)) fun x2 =>
(bn (leavesD dcall (fun (x3 : St) => (some (D.tup [(e.g 9), x2, (D.bool true)]))) (e).df none Av5) fun x3 =>
(leaveM M RetK.can A x3.1 x3.2)))))))
noncomputable def f42 (M : Mode) (call : CallT) (dcall : DcallT) (a0 : D) (a1 : D) (a2 : D) (A : St) : (Option (Res × St)) :=
(bn (boxO true a0 A) fun x0 =>
(bn (binO .lss 3 true a1 (n64 1)) fun x1 =>
(bn (guardB false x1) fun x2 =>
(bn (ifb x2 (some a2)
(some (D.tup []))) fun x3 =>
(bn (guardB false x1) fun x4 =>
(bn (ifb x4 (binO .lss 3 true x3 (n64 1))
(some (D.tup []))) fun x5 =>
(bn (mp (D.bool? x1) fun x6 => (ifb x6 (D.bool true)
 x5)) fun x6 =>
(bn (D.bool? x6) fun x7 =>
(ifb x7 (leaveM M RetK.can A (Res.ret (D.tup [(n64 0), (n64 0), (D.bool false)])) x0.2)
(bn (fieldAddrO 2 x0.1) fun x8 =>
(bn (mp (loadO false 1 x8 x0.2) fun x9 => (x9, x0.2)) fun x9 =>
(bn (lenSlO x9.1) fun x10 =>
(@Mode.it M (Res × St) (f42_s0 M call dcall A) (Env.mk (sp [(1, a1), (0, a2), (6, (n64 1)), (0, (n64 0)), (12, x9.1), (0, x10), (0, (n64 0))] 26) []) x9.2)))))))))))))
theorem b42 (M : Mode) (call : CallT) (dcall : DcallT) (a0 a1 a2 : D) (A : St) : bodyN M Tryd.prog rxHint kk call dcall 42 [a0, a1, a2] A = f42 M call dcall a0.canon a1.canon a2.canon A := by
  kernel_rfl
theorem r42 (a0 a1 a2 : D) (A : St) : Run Tryd.prog rxA 42 [a0, a1, a2] A = f42 mL (Run Tryd.prog rxA) (Dcall Tryd.prog rxA) a0.canon a1.canon a2.canon A := (Run_eqN Tryd.prog rxA kk rfl rfl _ _).trans (b42 mL (Run Tryd.prog rxA) (Dcall Tryd.prog rxA) a0 a1 a2 A)
noncomputable def f43_s0 (M : Mode) (call : CallT) (dcall : DcallT) (A : St) (e : Env) (Av5 : St) : (Option ((Env × St) ⊕ (Res × St))) :=
(bn (binO .lss 3 false (e.g 12) (e.g 11)) fun x0 =>
(bn (D.bool? x0) fun x1 =>
(ifb x1 (bn (indexAddrO 3 true (e.g 10) (e.g 12)) fun x2 =>
(bn (mp (loadO true 3 x2 Av5) fun x3 => (x3, Av5)) fun x3 =>
(bn (allocO [(n64 0), (D.str []), (D.sl Own.full 0 [])] x3.2) fun x4 =>
(bn (mp (storeO true 3 x4.1 x3.1 x4.2) fun x5 => ((D.tup []), x5)) fun x5 =>
(bn (binO .lss 3 true (e.g 1) (n64 0)) fun x6 =>
(bn (D.bool? x6) fun x7 =>
(ifb x7 (Option.map (Sum.inr ) (bn (leavesD dcall (fun (x8 : St) => (some (e.g 1))) (e).df none x5.2) fun x8 =>
(leaveM M RetK.can A x8.1 x8.2)))
(bn (mp (loadO true 3 x4.1 x5.2) fun x8 => (x8, x5.2)) fun x8 =>
(bn (call 43 [x8.1, (e.g 1)] x8.2) fun x9 =>
(Res.elim x9.1 (fun x10 => (bn (binO .add 3 true (e.g 12) (n64 1)) fun x11 =>
(@Mode.gk M ((Env × St) ⊕ (Res × St)) Av5 x9.2 (some (Sum.inl ((Env.mk (sp [(1, (D.shut (List.length Av5) x10)), (8, (D.shut (List.length Av5) (e.g 10))), (0, (D.shut (List.length Av5) (e.g 11))), (0, (D.shut (List.length Av5) x11))] 11) (List.map (fun (x12 : (D × (List D))) => ((D.shut (List.length Av5) x12.1), (D.shutL (List.length Av5) x12.2))) (e).df)), (List.take (List.length Av5) x9.2))))))) (fun x10 => (Option.map (Sum.inr ) (bn (leavesD dcall (fun (x11 : St) => (some (e.g 4))) (e).df (some x10) x9.2) fun x11 =>
(leaveM M RetK.can A x11.1 x11.2))))))))))))))
(Option.map (Sum.inr ) (bn (leavesD dcall (fun (x2 : St) => (some (e.g 1))) (e).df none Av5) fun x2 =>
(leaveM M RetK.can A x2.1 x2.2))))))
noncomputable def f43 (M : Mode) (call : CallT) (dcall : DcallT) (a0 : D) (a1 : D) (A : St) : (Option (Res × St)) :=
(bn (boxO true a0 A) fun x0 =>
(bn (binO .sub 3 true a1 (n64 1)) fun x1 =>
(bn (fieldAddrO 2 x0.1) fun x2 =>
(bn (mp (loadO false 1 x2 x0.2) fun x3 => (x3, x0.2)) fun x3 =>
(bn (lenSlO x3.1) fun x4 =>
(@Mode.it M (Res × St) (f43_s0 M call dcall A) (Env.mk (sp [(1, x1), (8, x3.1), (0, x4), (0, (n64 0))] 11) []) x3.2))))))
theorem b43 (M : Mode) (call : CallT) (dcall : DcallT) (a0 a1 : D) (A : St) : bodyN M Tryd.prog rxHint kk call dcall 43 [a0, a1] A = f43 M call dcall a0.canon a1.canon A := by
  kernel_rfl
theorem r43 (a0 a1 : D) (A : St) : Run Tryd.prog rxA 43 [a0, a1] A = f43 mL (Run Tryd.prog rxA) (Dcall Tryd.prog rxA) a0.canon a1.canon A := (Run_eqN Tryd.prog rxA kk rfl rfl _ _).trans (b43 mL (Run Tryd.prog rxA) (Dcall Tryd.prog rxA) a0 a1 A)
noncomputable def f44 (M : Mode) (call : CallT) (dcall : DcallT) (a0 : D) (A : St) : (Option (Res × St)) :=
(bn (boxO true a0 A) fun x0 =>
(bn (fieldAddrO 0 x0.1) fun x1 =>
(bn (mp (loadO false 1 x1 x0.2) fun x2 => (x2, x0.2)) fun x2 =>
(bn (binO .eql 3 true x2.1 (n64 1)) fun x3 =>
(bn (D.bool? x3) fun x4 =>
(ifb x4 (bn (fieldAddrO 1 x0.1) fun x5 =>
(bn (mp (loadO false 1 x5 x2.2) fun x6 => (x6, x2.2)) fun x6 =>
(bn (binO .neq 3 true x6.1 (D.str [])) fun x7 =>
(bn (binO .neq 0 false (D.bool true) x7) fun x8 =>
(bn (guardB false x8) fun x9 =>
(bn (ifb x9 (some (D.bool true))
(some (D.tup []))) fun x10 =>
(bn (guardB false x8) fun x11 =>
(bn (ifb x11 (some x10)
(some (D.tup []))) fun x12 =>
(bn (guardB true x12) fun x13 =>
(bn (ifb x13 (fieldAddrO 1 x0.1)
(some (D.tup []))) fun x14 =>
(bn (guardB true x12) fun x15 =>
(bn (ifb x15 (mp (loadO false 1 x14 x6.2) fun x16 => (x16, x6.2))
(some ((D.tup []), x6.2))) fun x16 =>
(bn (guardB true x12) fun x17 =>
(bn (ifb x17 (call 63 [x16.1] x16.2)
(some ((Res.ret (D.tup [])), x16.2))) fun x18 =>
(Res.elim x18.1 (fun x19 => (bn (guardB true x12) fun x20 =>
(bn (ifb x20 (unD UnOp.not x19)
(some (D.tup []))) fun x21 =>
(bn (guardB false x8) fun x22 =>
(bn (ifb x22 (mp (D.bool? x12) fun x23 => (ifb x23 x21
(D.bool false)))
(some (D.tup []))) fun x23 =>
(bn (mp (D.bool? x8) fun x24 => (ifb x24 (D.bool true)
 x23)) fun x24 =>
(bn (guardB false x24) fun x25 =>
(bn (ifb x25 (some (D.bool true))
(some (D.tup []))) fun x26 =>
(bn (guardB false x24) fun x27 =>
(bn (ifb x27 (some x26)
(some (D.tup []))) fun x28 =>
(bn (guardB true x28) fun x29 =>
(bn (ifb x29 (fieldAddrO 2 x0.1)
(some (D.tup []))) fun x30 =>
(bn (guardB true x28) fun x31 =>
(bn (ifb x31 (mp (loadO false 1 x30 x18.2) fun x32 => (x32, x18.2))
(some ((D.tup []), x18.2))) fun x32 =>
(bn (guardB true x28) fun x33 =>
(bn (ifb x33 (lenSlO x32.1)
(some (D.tup []))) fun x34 =>
(bn (guardB true x28) fun x35 =>
(bn (ifb x35 (binO .gtr 3 true x34 (n64 0))
(some (D.tup []))) fun x36 =>
(bn (guardB false x24) fun x37 =>
(bn (ifb x37 (mp (D.bool? x28) fun x38 => (ifb x38 x36
(D.bool false)))
(some (D.tup []))) fun x38 =>
(bn (mp (D.bool? x24) fun x39 => (ifb x39 (D.bool true)
 x38)) fun x39 =>
(bn (D.bool? x39) fun x40 =>
(ifb x40 (leaveM M RetK.can A (Res.ret (D.bool false)) x32.2)
(bn (fieldAddrO 2 x0.1) fun x41 =>
(bn (mp (loadO false 1 x41 x32.2) fun x42 => (x42, x32.2)) fun x42 =>
(bn (call 64 [x42.1, (D.fn (Fn.func 65) [] [x0.1])] x42.2) fun x43 =>
(Res.elim x43.1 (fun x44 => (bn (unD UnOp.not x44) fun x45 =>
(leaveM M RetK.can A (Res.ret x45) x43.2))) (fun x44 => (leaveM M RetK.can A (Res.pan x44) x43.2))))))))))))))))))))))))))))) (fun x19 => (leaveM M RetK.can A (Res.pan x19) x18.2)))))))))))))))))
(bn (binO .eql 3 true x2.1 (n64 2)) fun x5 =>
(bn (D.bool? x5) fun x6 =>
(ifb x6 (bn (fieldAddrO 1 x0.1) fun x7 =>
(bn (mp (loadO false 1 x7 x2.2) fun x8 => (x8, x2.2)) fun x8 =>
(bn (binO .neq 3 true x8.1 (D.str [])) fun x9 =>
(bn (binO .neq 0 false (D.bool true) x9) fun x10 =>
(bn (guardB false x10) fun x11 =>
(bn (ifb x11 (some (D.bool true))
(some (D.tup []))) fun x12 =>
(bn (guardB false x10) fun x13 =>
(bn (ifb x13 (some x12)
(some (D.tup []))) fun x14 =>
(bn (guardB true x14) fun x15 =>
(bn (ifb x15 (fieldAddrO 1 x0.1)
(some (D.tup []))) fun x16 =>
(bn (guardB true x14) fun x17 =>
(bn (ifb x17 (mp (loadO false 1 x16 x8.2) fun x18 => (x18, x8.2))
(some ((D.tup []), x8.2))) fun x18 =>
(bn (guardB true x14) fun x19 =>
(bn (ifb x19 (call 63 [x18.1] x18.2)
(some ((Res.ret (D.tup [])), x18.2))) fun x20 =>
(Res.elim x20.1 (fun x21 => (bn (guardB true x14) fun x22 =>
(bn (ifb x22 (unD UnOp.not x21)
(some (D.tup []))) fun x23 =>
(bn (guardB false x10) fun x24 =>
(bn (ifb x24 (mp (D.bool? x14) fun x25 => (ifb x25 x23
(D.bool false)))
(some (D.tup []))) fun x25 =>
(bn (mp (D.bool? x10) fun x26 => (ifb x26 (D.bool true)
 x25)) fun x26 =>
(bn (guardB false x26) fun x27 =>
(bn (ifb x27 (some (D.bool true))
(some (D.tup []))) fun x28 =>
(bn (guardB false x26) fun x29 =>
(bn (ifb x29 (some x28)
(some (D.tup []))) fun x30 =>
(bn (guardB true x30) fun x31 =>
(bn (ifb x31 (fieldAddrO 2 x0.1)
(some (D.tup []))) fun x32 =>
(bn (guardB true x30) fun x33 =>
(bn (ifb x33 (mp (loadO false 1 x32 x20.2) fun x34 => (x34, x20.2))
(some ((D.tup []), x20.2))) fun x34 =>
(bn (guardB true x30) fun x35 =>
(bn (ifb x35 (lenSlO x34.1)
(some (D.tup []))) fun x36 =>
(bn (guardB true x30) fun x37 =>
(bn (ifb x37 (binO .gtr 3 true x36 (n64 0))
(some (D.tup []))) fun x38 =>
(bn (guardB false x26) fun x39 =>
(bn (ifb x39 (mp (D.bool? x30) fun x40 => (ifb x40 x38
(D.bool false)))
(some (D.tup []))) fun x40 =>
(bn (mp (D.bool? x26) fun x41 => (ifb x41 (D.bool true)
 x40)) fun x41 =>
(bn (D.bool? x41) fun x42 =>
(ifb x42 (leaveM M RetK.can A (Res.ret (D.bool false)) x34.2)
(bn (fieldAddrO 2 x0.1) fun x43 =>
(bn (mp (loadO false 1 x43 x34.2) fun x44 => (x44, x34.2)) fun x44 =>
(bn (call 64 [x44.1, (D.fn (Fn.func 65) [] [x0.1])] x44.2) fun x45 =>
(Res.elim x45.1 (fun x46 => (bn (unD UnOp.not x46) fun x47 =>
(leaveM M RetK.can A (Res.ret x47) x45.2))) (fun x46 => (leaveM M RetK.can A (Res.pan x46) x45.2))))))))))))))))))))))))))))) (fun x21 => (leaveM M RetK.can A (Res.pan x21) x20.2)))))))))))))))))
(bn (binO .eql 3 true x2.1 (n64 3)) fun x7 =>
(bn (D.bool? x7) fun x8 =>
(ifb x8 (bn (fieldAddrO 1 x0.1) fun x9 =>
(bn (mp (loadO false 1 x9 x2.2) fun x10 => (x10, x2.2)) fun x10 =>
(bn (binO .neq 3 true x10.1 (D.str [])) fun x11 =>
(bn (binO .neq 0 false (D.bool false) x11) fun x12 =>
(bn (guardB false x12) fun x13 =>
(bn (ifb x13 (some (D.bool false))
(some (D.tup []))) fun x14 =>
(bn (guardB false x12) fun x15 =>
(bn (ifb x15 (some x14)
(some (D.tup []))) fun x16 =>
(bn (guardB true x16) fun x17 =>
(bn (ifb x17 (fieldAddrO 1 x0.1)
(some (D.tup []))) fun x18 =>
(bn (guardB true x16) fun x19 =>
(bn (ifb x19 (mp (loadO false 1 x18 x10.2) fun x20 => (x20, x10.2))
(some ((D.tup []), x10.2))) fun x20 =>
(bn (guardB true x16) fun x21 =>
(bn (ifb x21 (call 63 [x20.1] x20.2)
(some ((Res.ret (D.tup [])), x20.2))) fun x22 =>
(Res.elim x22.1 (fun x23 => (bn (guardB true x16) fun x24 =>
(bn (ifb x24 (unD UnOp.not x23)
(some (D.tup []))) fun x25 =>
(bn (guardB false x12) fun x26 =>
(bn (ifb x26 (mp (D.bool? x16) fun x27 => (ifb x27 x25
(D.bool false)))
(some (D.tup []))) fun x27 =>
(bn (mp (D.bool? x12) fun x28 => (ifb x28 (D.bool true)
 x27)) fun x28 =>
(bn (guardB false x28) fun x29 =>
(bn (ifb x29 (some (D.bool true))
(some (D.tup []))) fun x30 =>
(bn (guardB false x28) fun x31 =>
(bn (ifb x31 (some x30)
(some (D.tup []))) fun x32 =>
(bn (guardB true x32) fun x33 =>
(bn (ifb x33 (fieldAddrO 2 x0.1)
(some (D.tup []))) fun x34 =>
(bn (guardB true x32) fun x35 =>
(bn (ifb x35 (mp (loadO false 1 x34 x22.2) fun x36 => (x36, x22.2))
(some ((D.tup []), x22.2))) fun x36 =>
(bn (guardB true x32) fun x37 =>
(bn (ifb x37 (lenSlO x36.1)
(some (D.tup []))) fun x38 =>
(bn (guardB true x32) fun x39 =>
(bn (ifb x39 (binO .gtr 3 true x38 (n64 0))
(some (D.tup []))) fun x40 =>
(bn (guardB false x28) fun x41 =>
(bn (ifb x41 (mp (D.bool? x32) fun x42 => (ifb x42 x40
(D.bool false)))
(some (D.tup []))) fun x42 =>
(bn (mp (D.bool? x28) fun x43 => (ifb x43 (D.bool true)
 x42)) fun x43 =>
(bn (D.bool? x43) fun x44 =>
(ifb x44 (leaveM M RetK.can A (Res.ret (D.bool false)) x36.2)
(bn (fieldAddrO 2 x0.1) fun x45 =>
(bn (mp (loadO false 1 x45 x36.2) fun x46 => (x46, x36.2)) fun x46 =>
(bn (call 64 [x46.1, (D.fn (Fn.func 65) [] [x0.1])] x46.2) fun x47 =>
(Res.elim x47.1 (fun x48 => (bn (unD UnOp.not x48) fun x49 =>
(leaveM M RetK.can A (Res.ret x49) x47.2))) (fun x48 => (leaveM M RetK.can A (Res.pan x48) x47.2))))))))))))))))))))))))))))) (fun x23 => (leaveM M RetK.can A (Res.pan x23) x22.2)))))))))))))))))
(bn (binO .eql 3 true x2.1 (n64 4)) fun x9 =>
(bn (D.bool? x9) fun x10 =>
(ifb x10 (bn (fieldAddrO 2 x0.1) fun x11 =>
(bn (mp (loadO false 1 x11 x2.2) fun x12 => (x12, x2.2)) fun x12 =>
(bn (lenSlO x12.1) fun x13 =>
(bn (binO .neq 3 true x13 (n64 1)) fun x14 =>
(bn (unD UnOp.not x14) fun x15 =>
(bn (guardB false x15) fun x16 =>
(bn (ifb x16 (some (D.bool false))
(some (D.tup []))) fun x17 =>
(bn (guardB false x15) fun x18 =>
(bn (ifb x18 (fieldAddrO 1 x0.1)
(some (D.tup []))) fun x19 =>
(bn (guardB false x15) fun x20 =>
(bn (ifb x20 (mp (loadO false 1 x19 x12.2) fun x21 => (x21, x12.2))
(some ((D.tup []), x12.2))) fun x21 =>
(bn (guardB false x15) fun x22 =>
(bn (ifb x22 (binO .neq 3 true x21.1 (D.str []))
(some (D.tup []))) fun x23 =>
(bn (guardB false x15) fun x24 =>
(bn (ifb x24 (binO .neq 0 false x17 x23)
(some (D.tup []))) fun x25 =>
(bn (mp (D.bool? x15) fun x26 => (ifb x26 (D.bool true)
 x25)) fun x26 =>
(bn (guardB false x26) fun x27 =>
(bn (ifb x27 (some (D.bool false))
(some (D.tup []))) fun x28 =>
(bn (guardB false x26) fun x29 =>
(bn (ifb x29 (some x28)
(some (D.tup []))) fun x30 =>
(bn (guardB true x30) fun x31 =>
(bn (ifb x31 (fieldAddrO 1 x0.1)
(some (D.tup []))) fun x32 =>
(bn (guardB true x30) fun x33 =>
(bn (ifb x33 (mp (loadO false 1 x32 x21.2) fun x34 => (x34, x21.2))
(some ((D.tup []), x21.2))) fun x34 =>
(bn (guardB true x30) fun x35 =>
(bn (ifb x35 (call 63 [x34.1] x34.2)
(some ((Res.ret (D.tup [])), x34.2))) fun x36 =>
(Res.elim x36.1 (fun x37 => (bn (guardB true x30) fun x38 =>
(bn (ifb x38 (unD UnOp.not x37)
(some (D.tup []))) fun x39 =>
(bn (guardB false x26) fun x40 =>
(bn (ifb x40 (mp (D.bool? x30) fun x41 => (ifb x41 x39
(D.bool false)))
(some (D.tup []))) fun x41 =>
(bn (mp (D.bool? x26) fun x42 => (ifb x42 (D.bool true)
 x41)) fun x42 =>
(bn (guardB false x42) fun x43 =>
(bn (ifb x43 (some (D.bool false))
(some (D.tup []))) fun x44 =>
(bn (guardB false x42) fun x45 =>
(bn (ifb x45 (some x44)
(some (D.tup []))) fun x46 =>
(bn (guardB true x46) fun x47 =>
(bn (ifb x47 (fieldAddrO 2 x0.1)
(some (D.tup []))) fun x48 =>
(bn (guardB true x46) fun x49 =>
(bn (ifb x49 (mp (loadO false 1 x48 x36.2) fun x50 => (x50, x36.2))
(some ((D.tup []), x36.2))) fun x50 =>
(bn (guardB true x46) fun x51 =>
(bn (ifb x51 (lenSlO x50.1)
(some (D.tup []))) fun x52 =>
(bn (guardB true x46) fun x53 =>
(bn (ifb x53 (binO .gtr 3 true x52 (n64 0))
(some (D.tup []))) fun x54 =>
(bn (guardB false x42) fun x55 =>
(bn (ifb x55 (mp (D.bool? x46) fun x56 => (ifb x56 x54
(D.bool false)))
(some (D.tup []))) fun x56 =>
(bn (mp (D.bool? x42) fun x57 => (ifb x57 (D.bool true)
 x56)) fun x57 =>
(bn (D.bool? x57) fun x58 =>
(ifb x58 (leaveM M RetK.can A (Res.ret (D.bool false)) x50.2)
(bn (fieldAddrO 2 x0.1) fun x59 =>
(bn (mp (loadO false 1 x59 x50.2) fun x60 => (x60, x50.2)) fun x60 =>
(bn (call 64 [x60.1, (D.fn (Fn.func 65) [] [x0.1])] x60.2) fun x61 =>
(Res.elim x61.1 (fun x62 => (bn (unD UnOp.not x62) fun x63 =>
(leaveM M RetK.can A (Res.ret x63) x61.2))) (fun x62 => (leaveM M RetK.can A (Res.pan x62) x61.2))))))))))))))))))))))))))))) (fun x37 => (leaveM M RetK.can A (Res.pan x37) x36.2)))))))))))))))))))))))))))))
(bn (binO .eql 3 true x2.1 (n64 5)) fun x11 =>
(bn (D.bool? x11) fun x12 =>
(ifb x12 (bn (fieldAddrO 2 x0.1) fun x13 =>
(bn (mp (loadO false 1 x13 x2.2) fun x14 => (x14, x2.2)) fun x14 =>
(bn (lenSlO x14.1) fun x15 =>
(bn (binO .gtr 3 true x15 (n64 1)) fun x16 =>
(bn (unD UnOp.not x16) fun x17 =>
(bn (guardB false x17) fun x18 =>
(bn (ifb x18 (some (D.bool false))
(some (D.tup []))) fun x19 =>
(bn (guardB false x17) fun x20 =>
(bn (ifb x20 (fieldAddrO 1 x0.1)
(some (D.tup []))) fun x21 =>
(bn (guardB false x17) fun x22 =>
(bn (ifb x22 (mp (loadO false 1 x21 x14.2) fun x23 => (x23, x14.2))
(some ((D.tup []), x14.2))) fun x23 =>
(bn (guardB false x17) fun x24 =>
(bn (ifb x24 (binO .neq 3 true x23.1 (D.str []))
(some (D.tup []))) fun x25 =>
(bn (guardB false x17) fun x26 =>
(bn (ifb x26 (binO .neq 0 false x19 x25)
(some (D.tup []))) fun x27 =>
(bn (mp (D.bool? x17) fun x28 => (ifb x28 (D.bool true)
 x27)) fun x28 =>
(bn (guardB false x28) fun x29 =>
(bn (ifb x29 (some (D.bool false))
(some (D.tup []))) fun x30 =>
(bn (guardB false x28) fun x31 =>
(bn (ifb x31 (some x30)
(some (D.tup []))) fun x32 =>
(bn (guardB true x32) fun x33 =>
(bn (ifb x33 (fieldAddrO 1 x0.1)
(some (D.tup []))) fun x34 =>
(bn (guardB true x32) fun x35 =>
(bn (ifb x35 (mp (loadO false 1 x34 x23.2) fun x36 => (x36, x23.2))
(some ((D.tup []), x23.2))) fun x36 =>
(bn (guardB true x32) fun x37 =>
(bn (ifb x37 (call 63 [x36.1] x36.2)
(some ((Res.ret (D.tup [])), x36.2))) fun x38 =>
(Res.elim x38.1 (fun x39 => (bn (guardB true x32) fun x40 =>
(bn (ifb x40 (unD UnOp.not x39)
(some (D.tup []))) fun x41 =>
(bn (guardB false x28) fun x42 =>
(bn (ifb x42 (mp (D.bool? x32) fun x43 => (ifb x43 x41
(D.bool false)))
(some (D.tup []))) fun x43 =>
(bn (mp (D.bool? x28) fun x44 => (ifb x44 (D.bool true)
 x43)) fun x44 =>
(bn (guardB false x44) fun x45 =>
(bn (ifb x45 (some (D.bool false))
(some (D.tup []))) fun x46 =>
(bn (guardB false x44) fun x47 =>
(bn (ifb x47 (some x46)
(some (D.tup []))) fun x48 =>
(bn (guardB true x48) fun x49 =>
(bn (ifb x49 (fieldAddrO 2 x0.1)
(some (D.tup []))) fun x50 =>
(bn (guardB true x48) fun x51 =>
(bn (ifb x51 (mp (loadO false 1 x50 x38.2) fun x52 => (x52, x38.2))
(some ((D.tup []), x38.2))) fun x52 =>
(bn (guardB true x48) fun x53 =>
(bn (ifb x53 (lenSlO x52.1)
(some (D.tup []))) fun x54 =>
(bn (guardB true x48) fun x55 =>
(bn (ifb x55 (binO .gtr 3 true x54 (n64 0))
(some (D.tup []))) fun x56 =>
(bn (guardB false x44) fun x57 =>
(bn (ifb x57 (mp (D.bool? x48) fun x58 => (ifb x58 x56
(D.bool false)))
(some (D.tup []))) fun x58 =>
(bn (mp (D.bool? x44) fun x59 => (ifb x59 (D.bool true)
 x58)) fun x59 =>
(bn (D.bool? x59) fun x60 =>
(ifb x60 (leaveM M RetK.can A (Res.ret (D.bool false)) x52.2)
(bn (fieldAddrO 2 x0.1) fun x61 =>
(bn (mp (loadO false 1 x61 x52.2) fun x62 => (x62, x52.2)) fun x62 =>
(bn (call 64 [x62.1, (D.fn (Fn.func 65) [] [x0.1])] x62.2) fun x63 =>
(Res.elim x63.1 (fun x64 => (bn (unD UnOp.not x64) fun x65 =>
(leaveM M RetK.can A (Res.ret x65) x63.2))) (fun x64 => (leaveM M RetK.can A (Res.pan x64) x63.2))))))))))))))))))))))))))))) (fun x39 => (leaveM M RetK.can A (Res.pan x39) x38.2)))))))))))))))))))))))))))))
(bn (binO .eql 3 true x2.1 (n64 6)) fun x13 =>
(bn (D.bool? x13) fun x14 =>
(ifb x14 (bn (fieldAddrO 2 x0.1) fun x15 =>
(bn (mp (loadO false 1 x15 x2.2) fun x16 => (x16, x2.2)) fun x16 =>
(bn (lenSlO x16.1) fun x17 =>
(bn (binO .eql 3 true x17 (n64 1)) fun x18 =>
(bn (unD UnOp.not x18) fun x19 =>
(bn (guardB false x19) fun x20 =>
(bn (ifb x20 (some (D.bool false))
(some (D.tup []))) fun x21 =>
(bn (guardB false x19) fun x22 =>
(bn (ifb x22 (fieldAddrO 1 x0.1)
(some (D.tup []))) fun x23 =>
(bn (guardB false x19) fun x24 =>
(bn (ifb x24 (mp (loadO false 1 x23 x16.2) fun x25 => (x25, x16.2))
(some ((D.tup []), x16.2))) fun x25 =>
(bn (guardB false x19) fun x26 =>
(bn (ifb x26 (binO .neq 3 true x25.1 (D.str []))
(some (D.tup []))) fun x27 =>
(bn (guardB false x19) fun x28 =>
(bn (ifb x28 (binO .neq 0 false x21 x27)
(some (D.tup []))) fun x29 =>
(bn (mp (D.bool? x19) fun x30 => (ifb x30 (D.bool true)
 x29)) fun x30 =>
(bn (guardB false x30) fun x31 =>
(bn (ifb x31 (some (D.bool false))
(some (D.tup []))) fun x32 =>
(bn (guardB false x30) fun x33 =>
(bn (ifb x33 (some x32)
(some (D.tup []))) fun x34 =>
(bn (guardB true x34) fun x35 =>
(bn (ifb x35 (fieldAddrO 1 x0.1)
(some (D.tup []))) fun x36 =>
(bn (guardB true x34) fun x37 =>
(bn (ifb x37 (mp (loadO false 1 x36 x25.2) fun x38 => (x38, x25.2))
(some ((D.tup []), x25.2))) fun x38 =>
(bn (guardB true x34) fun x39 =>
(bn (ifb x39 (call 63 [x38.1] x38.2)
(some ((Res.ret (D.tup [])), x38.2))) fun x40 =>
(Res.elim x40.1 (fun x41 => (bn (guardB true x34) fun x42 =>
(bn (ifb x42 (unD UnOp.not x41)
(some (D.tup []))) fun x43 =>
(bn (guardB false x30) fun x44 =>
(bn (ifb x44 (mp (D.bool? x34) fun x45 => (ifb x45 x43
(D.bool false)))
(some (D.tup []))) fun x45 =>
(bn (mp (D.bool? x30) fun x46 => (ifb x46 (D.bool true)
 x45)) fun x46 =>
(bn (guardB false x46) fun x47 =>
(bn (ifb x47 (some (D.bool false))
(some (D.tup []))) fun x48 =>
(bn (guardB false x46) fun x49 =>
(bn (ifb x49 (some x48)
(some (D.tup []))) fun x50 =>
(bn (guardB true x50) fun x51 =>
(bn (ifb x51 (fieldAddrO 2 x0.1)
(some (D.tup []))) fun x52 =>
(bn (guardB true x50) fun x53 =>
(bn (ifb x53 (mp (loadO false 1 x52 x40.2) fun x54 => (x54, x40.2))
(some ((D.tup []), x40.2))) fun x54 =>
(bn (guardB true x50) fun x55 =>
(bn (ifb x55 (lenSlO x54.1)
(some (D.tup []))) fun x56 =>
(bn (guardB true x50) fun x57 =>
(bn (ifb x57 (binO .gtr 3 true x56 (n64 0))
(some (D.tup []))) fun x58 =>
(bn (guardB false x46) fun x59 =>
(bn (ifb x59 (mp (D.bool? x50) fun x60 => (ifb x60 x58
(D.bool false)))
(some (D.tup []))) fun x60 =>
(bn (mp (D.bool? x46) fun x61 => (ifb x61 (D.bool true)
 x60)) fun x61 =>
(bn (D.bool? x61) fun x62 =>
(ifb x62 (leaveM M RetK.can A (Res.ret (D.bool false)) x54.2)
(bn (fieldAddrO 2 x0.1) fun x63 =>
(bn (mp (loadO false 1 x63 x54.2) fun x64 => (x64, x54.2)) fun x64 =>
(bn (call 64 [x64.1, (D.fn (Fn.func 65) [] [x0.1])] x64.2) fun x65 =>
(Res.elim x65.1 (fun x66 => (bn (unD UnOp.not x66) fun x67 =>
(leaveM M RetK.can A (Res.ret x67) x65.2))) (fun x66 => (leaveM M RetK.can A (Res.pan x66) x65.2))))))))))))))))))))))))))))) (fun x41 => (leaveM M RetK.can A (Res.pan x41) x40.2)))))))))))))))))))))))))))))
(bn (binO .eql 3 true x2.1 (n64 7)) fun x15 =>
(bn (D.bool? x15) fun x16 =>
(ifb x16 (bn (fieldAddrO 2 x0.1) fun x17 =>
(bn (mp (loadO false 1 x17 x2.2) fun x18 => (x18, x2.2)) fun x18 =>
(bn (lenSlO x18.1) fun x19 =>
(bn (binO .eql 3 true x19 (n64 1)) fun x20 =>
(bn (unD UnOp.not x20) fun x21 =>
(bn (guardB false x21) fun x22 =>
(bn (ifb x22 (some (D.bool false))
(some (D.tup []))) fun x23 =>
(bn (guardB false x21) fun x24 =>
(bn (ifb x24 (fieldAddrO 1 x0.1)
(some (D.tup []))) fun x25 =>
(bn (guardB false x21) fun x26 =>
(bn (ifb x26 (mp (loadO false 1 x25 x18.2) fun x27 => (x27, x18.2))
(some ((D.tup []), x18.2))) fun x27 =>
(bn (guardB false x21) fun x28 =>
(bn (ifb x28 (binO .neq 3 true x27.1 (D.str []))
(some (D.tup []))) fun x29 =>
(bn (guardB false x21) fun x30 =>
(bn (ifb x30 (binO .neq 0 false x23 x29)
(some (D.tup []))) fun x31 =>
(bn (mp (D.bool? x21) fun x32 => (ifb x32 (D.bool true)
 x31)) fun x32 =>
(bn (guardB false x32) fun x33 =>
(bn (ifb x33 (some (D.bool false))
(some (D.tup []))) fun x34 =>
(bn (guardB false x32) fun x35 =>
(bn (ifb x35 (some x34)
(some (D.tup []))) fun x36 =>
(bn (guardB true x36) fun x37 =>
(bn (ifb x37 (fieldAddrO 1 x0.1)
(some (D.tup []))) fun x38 =>
(bn (guardB true x36) fun x39 =>
(bn (ifb x39 (mp (loadO false 1 x38 x27.2) fun x40 => (x40, x27.2))
(some ((D.tup []), x27.2))) fun x40 =>
(bn (guardB true x36) fun x41 =>
(bn (ifb x41 (call 63 [x40.1] x40.2)
(some ((Res.ret (D.tup [])), x40.2))) fun x42 =>
(Res.elim x42.1 (fun x43 => (bn (guardB true x36) fun x44 =>
(bn (ifb x44 (unD UnOp.not x43)
(some (D.tup []))) fun x45 =>
(bn (guardB false x32) fun x46 =>
(bn (ifb x46 (mp (D.bool? x36) fun x47 => (ifb x47 x45
(D.bool false)))
(some (D.tup []))) fun x47 =>
(bn (mp (D.bool? x32) fun x48 => (ifb x48 (D.bool true)
 x47)) fun x48 =>
(bn (guardB false x48) fun x49 =>
(bn (ifb x49 (some (D.bool false))
(some (D.tup []))) fun x50 =>
(bn (guardB false x48) fun x51 =>
(bn (ifb x51 (some x50)
(some (D.tup []))) fun x52 =>
(bn (guardB true x52) fun x53 =>
(bn (ifb x53 (fieldAddrO 2 x0.1)
(some (D.tup []))) fun x54 =>
(bn (guardB true x52) fun x55 =>
(bn (ifb x55 (mp (loadO false 1 x54 x42.2) fun x56 => (x56, x42.2))
(some ((D.tup []), x42.2))) fun x56 =>
(bn (guardB true x52) fun x57 =>
(bn (ifb x57 (lenSlO x56.1)
(some (D.tup []))) fun x58 =>
(bn (guardB true x52) fun x59 =>
(bn (ifb x59 (binO .gtr 3 true x58 (n64 0))
(some (D.tup []))) fun x60 =>
(bn (guardB false x48) fun x61 =>
(bn (ifb x61 (mp (D.bool? x52) fun x62 => (ifb x62 x60
(D.bool false)))
(some (D.tup []))) fun x62 =>
(bn (mp (D.bool? x48) fun x63 => (ifb x63 (D.bool true)
 x62)) fun x63 =>
(bn (D.bool? x63) fun x64 =>
(ifb x64 (leaveM M RetK.can A (Res.ret (D.bool false)) x56.2)
(bn (fieldAddrO 2 x0.1) fun x65 =>
(bn (mp (loadO false 1 x65 x56.2) fun x66 => (x66, x56.2)) fun x66 =>
(bn (call 64 [x66.1, (D.fn (Fn.func 65) [] [x0.1])] x66.2) fun x67 =>
(Res.elim x67.1 (fun x68 => (bn (unD UnOp.not x68) fun x69 =>
(leaveM M RetK.can A (Res.ret x69) x67.2))) (fun x68 => (leaveM M RetK.can A (Res.pan x68) x67.2))))))))))))))))))))))))))))) (fun x43 => (leaveM M RetK.can A (Res.pan x43) x42.2)))))))))))))))))))))))))))))
(bn (binO .eql 3 true x2.1 (n64 8)) fun x17 =>
(bn (D.bool? x17) fun x18 =>
(ifb x18 (bn (fieldAddrO 2 x0.1) fun x19 =>
(bn (mp (loadO false 1 x19 x2.2) fun x20 => (x20, x2.2)) fun x20 =>
(bn (lenSlO x20.1) fun x21 =>
(bn (binO .eql 3 true x21 (n64 1)) fun x22 =>
(bn (unD UnOp.not x22) fun x23 =>
(bn (guardB false x23) fun x24 =>
(bn (ifb x24 (some (D.bool false))
(some (D.tup []))) fun x25 =>
(bn (guardB false x23) fun x26 =>
(bn (ifb x26 (fieldAddrO 1 x0.1)
(some (D.tup []))) fun x27 =>
(bn (guardB false x23) fun x28 =>
(bn (ifb x28 (mp (loadO false 1 x27 x20.2) fun x29 => (x29, x20.2))
(some ((D.tup []), x20.2))) fun x29 =>
(bn (guardB false x23) fun x30 =>
(bn (ifb x30 (binO .neq 3 true x29.1 (D.str []))
(some (D.tup []))) fun x31 =>
(bn (guardB false x23) fun x32 =>
(bn (ifb x32 (binO .neq 0 false x25 x31)
(some (D.tup []))) fun x33 =>
(bn (mp (D.bool? x23) fun x34 => (ifb x34 (D.bool true)
 x33)) fun x34 =>
(bn (guardB false x34) fun x35 =>
(bn (ifb x35 (some (D.bool false))
(some (D.tup []))) fun x36 =>
(bn (guardB false x34) fun x37 =>
(bn (ifb x37 (some x36)
(some (D.tup []))) fun x38 =>
(bn (guardB true x38) fun x39 =>
(bn (ifb x39 (fieldAddrO 1 x0.1)
(some (D.tup []))) fun x40 =>
(bn (guardB true x38) fun x41 =>
(bn (ifb x41 (mp (loadO false 1 x40 x29.2) fun x42 => (x42, x29.2))
(some ((D.tup []), x29.2))) fun x42 =>
(bn (guardB true x38) fun x43 =>
(bn (ifb x43 (call 63 [x42.1] x42.2)
(some ((Res.ret (D.tup [])), x42.2))) fun x44 =>
(Res.elim x44.1 (fun x45 => (bn (guardB true x38) fun x46 =>
(bn (ifb x46 (unD UnOp.not x45)
(some (D.tup []))) fun x47 =>
(bn (guardB false x34) fun x48 =>
(bn (ifb x48 (mp (D.bool? x38) fun x49 => (ifb x49 x47
(D.bool false)))
(some (D.tup []))) fun x49 =>
(bn (mp (D.bool? x34) fun x50 => (ifb x50 (D.bool true)
 x49)) fun x50 =>
(bn (guardB false x50) fun x51 =>
(bn (ifb x51 (some (D.bool false))
(some (D.tup []))) fun x52 =>
(bn (guardB false x50) fun x53 =>
(bn (ifb x53 (some x52)
(some (D.tup []))) fun x54 =>
(bn (guardB true x54) fun x55 =>
(bn (ifb x55 (fieldAddrO 2 x0.1)
(some (D.tup []))) fun x56 =>
(bn (guardB true x54) fun x57 =>
(bn (ifb x57 (mp (loadO false 1 x56 x44.2) fun x58 => (x58, x44.2))
(some ((D.tup []), x44.2))) fun x58 =>
(bn (guardB true x54) fun x59 =>
(bn (ifb x59 (lenSlO x58.1)
(some (D.tup []))) fun x60 =>
(bn (guardB true x54) fun x61 =>
(bn (ifb x61 (binO .gtr 3 true x60 (n64 0))
(some (D.tup []))) fun x62 =>
(bn (guardB false x50) fun x63 =>
(bn (ifb x63 (mp (D.bool? x54) fun x64 => (ifb x64 x62
(D.bool false)))
(some (D.tup []))) fun x64 =>
(bn (mp (D.bool? x50) fun x65 => (ifb x65 (D.bool true)
 x64)) fun x65 =>
(bn (D.bool? x65) fun x66 =>
(ifb x66 (leaveM M RetK.can A (Res.ret (D.bool false)) x58.2)
(bn (fieldAddrO 2 x0.1) fun x67 =>
(bn (mp (loadO false 1 x67 x58.2) fun x68 => (x68, x58.2)) fun x68 =>
(bn (call 64 [x68.1, (D.fn (Fn.func 65) [] [x0.1])] x68.2) fun x69 =>
(Res.elim x69.1 (fun x70 => (bn (unD UnOp.not x70) fun x71 =>
(leaveM M RetK.can A (Res.ret x71) x69.2))) (fun x70 => (leaveM M RetK.can A (Res.pan x70) x69.2))))))))))))))))))))))))))))) (fun x45 => (leaveM M RetK.can A (Res.pan x45) x44.2)))))))))))))))))))))))))))))
(leaveM M RetK.can A (Res.ret (D.bool false)) x2.2))))))))))))))))))))))))))))
theorem b44 (M : Mode) (call : CallT) (dcall : DcallT) (a0 : D) (A : St) : bodyN M Tryd.prog rxHint kk call dcall 44 [a0] A = f44 M call dcall a0.canon A := by
  kernel_rfl
theorem r44 (a0 : D) (A : St) : Run Tryd.prog rxA 44 [a0] A = f44 mL (Run Tryd.prog rxA) (Dcall Tryd.prog rxA) a0.canon A := (Run_eqN Tryd.prog rxA kk rfl rfl _ _).trans (b44 mL (Run Tryd.prog rxA) (Dcall Tryd.prog rxA) a0 A)
noncomputable def f45_s0 (M : Mode) (call : CallT) (dcall : DcallT) (A : St) (e : Env) (Av5 : St) : (Option ((Env × St) ⊕ (Res × St))) :=
(bn (binO .lss 3 false (e.g 17) (e.g 16)) fun x0 =>
(bn (D.bool? x0) fun x1 =>
(ifb x1 (bn (indexAddrO 3 true (e.g 15) (e.g 17)) fun x2 =>
(bn (mp (loadO true 3 x2 Av5) fun x3 => (x3, Av5)) fun x3 =>
(bn (allocO [(n64 0), (D.str []), (D.sl Own.full 0 [])] x3.2) fun x4 =>
(bn (mp (storeO true 3 x4.1 x3.1 x4.2) fun x5 => ((D.tup []), x5)) fun x5 =>
(bn (indexAddrO 3 true (e.g 1) (e.g 17)) fun x6 =>
(bn (mp (loadO true 3 x6 x5.2) fun x7 => (x7, x5.2)) fun x7 =>
(bn (allocO [(n64 0), (D.str []), (D.sl Own.full 0 [])] x7.2) fun x8 =>
(bn (mp (storeO true 3 x8.1 x7.1 x8.2) fun x9 => ((D.tup []), x9)) fun x9 =>
(bn (mp (loadO true 3 x4.1 x9.2) fun x10 => (x10, x9.2)) fun x10 =>
(bn (mp (loadO true 3 x8.1 x10.2) fun x11 => (x11, x10.2)) fun x11 =>
(bn (applyD call (e.g 2) [x10.1, x11.1] x11.2) fun x12 =>
(Res.elim x12.1 (fun x13 => (bn (unD UnOp.not x13) fun x14 =>
(bn (D.bool? x14) fun x15 =>
(ifb x15 (Option.map (Sum.inr ) (bn (leavesD dcall (fun (x16 : St) => (some (D.bool false))) (e).df none x12.2) fun x16 =>
(leaveM M RetK.can A x16.1 x16.2)))
(bn (binO .add 3 true (e.g 17) (n64 1)) fun x16 =>
(@Mode.gk M ((Env × St) ⊕ (Res × St)) Av5 x12.2 (some (Sum.inl ((Env.mk (sp [(1, (D.shut (List.length Av5) (e.g 1))), (0, (D.shut (List.length Av5) (e.g 2))), (12, (D.shut (List.length Av5) (e.g 15))), (0, (D.shut (List.length Av5) (e.g 16))), (0, (D.shut (List.length Av5) x16))] 14) (List.map (fun (x17 : (D × (List D))) => ((D.shut (List.length Av5) x17.1), (D.shutL (List.length Av5) x17.2))) (e).df)), (List.take (List.length Av5) x12.2)))))))))) (fun x13 => (Option.map (Sum.inr ) (bn (leavesD dcall (fun (x14 : St) => (some (e.g 6))) (e).df (some x13) x12.2) fun x14 =>
(leaveM M RetK.can A x14.1 x14.2))))))))))))))))
(Option.map (Sum.inr ) (bn (leavesD dcall (fun (x2 : St) => (some (D.bool true))) (e).df none Av5) fun x2 =>
(leaveM M RetK.can A x2.1 x2.2))))))
noncomputable def f45 (M : Mode) (call : CallT) (dcall : DcallT) (a0 : D) (a1 : D) (a2 : D) (A : St) : (Option (Res × St)) :=
(bn (lenSlO a0) fun x0 =>
(bn (lenSlO a1) fun x1 =>
(bn (binO .neq 3 false x0 x1) fun x2 =>
(bn (D.bool? x2) fun x3 =>
(ifb x3 (leaveM M RetK.can A (Res.ret (D.bool false)) A)
(bn (lenSlO a0) fun x4 =>
(@Mode.it M (Res × St) (f45_s0 M call dcall A) (Env.mk (sp [(1, a1), (0, a2), (12, a0), (0, x4), (0, (n64 0))] 14) []) A)))))))
theorem b45 (M : Mode) (call : CallT) (dcall : DcallT) (a0 a1 a2 : D) (A : St) : bodyN M Tryd.prog rxHint kk call dcall 45 [a0, a1, a2] A = f45 M call dcall a0.canon a1.canon a2.canon A := by
  kernel_rfl
noncomputable def f46 (M : Mode) (call : CallT) (dcall : DcallT) (a0 : D) (a1 : D) (a2 : D) (a3 : D) (A : St) : (Option (Res × St)) :=
  none
theorem b46 (M : Mode) (call : CallT) (dcall : DcallT) (a0 a1 a2 a3 : D) (A : St) : bodyN M Tryd.prog rxHint kk call dcall 46 [a0, a1, a2, a3] A = f46 M call dcall a0.canon a1.canon a2.canon a3.canon A := by
  kernel_rfl
noncomputable def f47 (M : Mode) (call : CallT) (dcall : DcallT) (a0 : D) (a1 : D) (A : St) : (Option (Res × St)) :=
(bn (call 66 [a0, a1, (n64 0)] A) fun x0 =>
(Res.elim x0.1 (fun x1 => (leaveM M RetK.keep A (Res.ret x1) x0.2)) (fun x1 => (leaveM M RetK.keep A (Res.pan x1) x0.2))))
theorem b47 (M : Mode) (call : CallT) (dcall : DcallT) (a0 a1 : D) (A : St) : bodyN M Tryd.prog rxHint kk call dcall 47 [a0, a1] A = f47 M call dcall a0.canon a1.canon A := by
  kernel_rfl
noncomputable def f48_s0 (M : Mode) (call : CallT) (dcall : DcallT) (A : St) (e : Env) (Av5 : St) : (Option ((Env × St) ⊕ (Res × St))) :=
(bn (nilCheckD (e.g 0)) fun x0 =>
(bn (fieldAddrO 0 x0) fun x1 =>
(bn (fieldAddrO 1 x1) fun x2 =>
(bn (mp (mp (loadO false 1 x2 Av5) fun x3 => (x3, Av5)) fun x3 => x3.1) fun x3 =>
(bn (nilCheckD (e.g 0)) fun x4 =>
(bn (fieldAddrO 2 x4) fun x5 =>
(bn (mp (mp (loadO false 1 x5 Av5) fun x6 => (x6, Av5)) fun x6 => x6.1) fun x6 =>
(bn (lenStrO x6) fun x7 =>
(bn (binO .lss 3 false x3 x7) fun x8 =>
(bn (guardB true x8) fun x9 =>
(bn (ifb x9 (some (e.g 0))
(some (D.tup []))) fun x10 =>
(bn (guardB true x8) fun x11 =>
(bn (ifb x11 (nilCheckD x10)
(some (D.tup []))) fun x12 =>
(bn (guardB true x8) fun x13 =>
(bn (ifb x13 (fieldAddrO 2 x12)
(some (D.tup []))) fun x14 =>
(bn (guardB true x8) fun x15 =>
(bn (ifb x15 (mp (mp (loadO false 1 x14 Av5) fun x16 => (x16, Av5)) fun x16 => x16.1)
(some (D.tup []))) fun x16 =>
(bn (guardB true x8) fun x17 =>
(bn (ifb x17 (some (e.g 0))
(some (D.tup []))) fun x18 =>
(bn (guardB true x8) fun x19 =>
(bn (ifb x19 (nilCheckD x18)
(some (D.tup []))) fun x20 =>
(bn (guardB true x8) fun x21 =>
(bn (ifb x21 (fieldAddrO 0 x20)
(some (D.tup []))) fun x22 =>
(bn (guardB true x8) fun x23 =>
(bn (ifb x23 (fieldAddrO 1 x22)
(some (D.tup []))) fun x24 =>
(bn (guardB true x8) fun x25 =>
(bn (ifb x25 (mp (mp (loadO false 1 x24 Av5) fun x26 => (x26, Av5)) fun x26 => x26.1)
(some (D.tup []))) fun x26 =>
(bn (guardB true x8) fun x27 =>
(bn (ifb x27 (indexStrO x16 x26)
(some (D.tup []))) fun x28 =>
(bn (guardB true x8) fun x29 =>
(bn (ifb x29 (binO .neq 3 true x28 (D.int IntKind.u8 (35 : Int)))
(some (D.tup []))) fun x30 =>
(bn (mp (D.bool? x8) fun x31 => (ifb x31 x30
(D.bool false))) fun x31 =>
(@Mode.gs M ((Env × St) ⊕ (Res × St)) True true (bn (D.bool? x31) fun x32 =>
(ifb x32 (bn (nilCheckD (e.g 0)) fun x33 =>
(bn (fieldAddrO 2 x33) fun x34 =>
(bn (mp (mp (loadO false 1 x34 Av5) fun x35 => (x35, Av5)) fun x35 => x35.1) fun x35 =>
(bn (nilCheckD (e.g 0)) fun x36 =>
(bn (fieldAddrO 0 x36) fun x37 =>
(bn (fieldAddrO 1 x37) fun x38 =>
(bn (mp (mp (loadO false 1 x38 Av5) fun x39 => (x39, Av5)) fun x39 => x39.1) fun x39 =>
(bn (indexStrO x35 x39) fun x40 =>
(@Mode.gs M ((Env × St) ⊕ (Res × St)) True true (bn (binO .eql 3 true x40 (D.int IntKind.u8 (32 : Int))) fun x41 =>
(bn (guardB false x41) fun x42 =>
(bn (ifb x42 (some x40)
(some (D.tup []))) fun x43 =>
(bn (guardB false x41) fun x44 =>
(bn (ifb x44 (binO .eql 3 true x43 (D.int IntKind.u8 (9 : Int)))
(some (D.tup []))) fun x45 =>
(bn (mp (D.bool? x41) fun x46 => (ifb x46 (D.bool true)
 x45)) fun x46 =>
(bn (D.bool? x46) fun x47 =>
(ifb x47 (bn (nilCheckD (e.g 0)) fun x48 =>
(bn (fieldAddrO 0 x48) fun x49 =>
(bn (call 67 [x49, (n64 1)] Av5) fun x50 =>
(Res.elim x50.1 (fun x51 => (some (Sum.inl ((Env.mk (sp [(0, (e.g 0))] 107) (e).df), x50.2)))) (fun x51 => (Option.map (Sum.inr ) (bn (leavesD dcall (fun (x52 : St) => (some (D.tup []))) (e).df (some x51) x50.2) fun x52 =>
(leaveM M RetK.keep A x52.1 x52.2))))))))
(bn (call 68 [(e.g 0)] Av5) fun x48 =>
(Res.elim x48.1 (fun x49 => (bn (binO .eql 3 true x49 (n64 0)) fun x50 =>
(bn (D.bool? x50) fun x51 =>
(bn (ifb x51 (bn (nilCheckD (e.g 0)) fun x52 =>
(bn (fieldAddrO 0 x52) fun x53 =>
(bn (fieldAddrO 0 x53) fun x54 =>
(bn (mp (mp (loadO false 1 x54 x48.2) fun x55 => (x55, x48.2)) fun x55 => x55.1) fun x55 =>
(bn (nilCheckD (e.g 0)) fun x56 =>
(bn (fieldAddrO 0 x56) fun x57 =>
(bn (fieldAddrO 1 x57) fun x58 =>
(bn (mp (mp (loadO false 1 x58 x48.2) fun x59 => (x59, x48.2)) fun x59 => x59.1) fun x59 =>
(bn (binO .add 3 true x59 (n64 1)) fun x60 =>
(bn (Option.map D.agg (Option.bind (layCells false 1 0 [(n64 0), (n64 0)] x55) (fun (x61 : (List D)) => (Option.bind (layCells false 1 1 x61 x60) (fun (x62 : (List D)) => (some x62)))))) fun x61 =>
(@Mode.gs M ((Env × St) ⊕ ((Env × St) ⊕ (Res × St))) True true (Option.map (Sum.inr ) (Option.map (Sum.inr ) (bn (leavesD dcall (fun (x62 : St) => (some (D.tup []))) (e).df (some (D.iface 93 x61)) x48.2) fun x62 =>
(leaveM M RetK.keep A x62.1 x62.2)))))))))))))))
(some (Sum.inl ((Env.mk (sp [(0, (e.g 0)), (2, x49)] 104) (e).df), x48.2)))) fun x52 =>
(Sum.elim (fun (x53 : (Env × St)) => (bn (nilCheckD (x53.1.g 0)) fun x54 =>
(bn (fieldAddrO 3 x54) fun x55 =>
(bn (mp (mp (loadO false 1 x55 x53.2) fun x56 => (x56, x53.2)) fun x56 => x56.1) fun x56 =>
(bn (nilCheckD (x53.1.g 0)) fun x57 =>
(bn (fieldAddrO 2 x57) fun x58 =>
(bn (mp (mp (loadO false 1 x58 x53.2) fun x59 => (x59, x53.2)) fun x59 => x59.1) fun x59 =>
(bn (nilCheckD (x53.1.g 0)) fun x60 =>
(bn (fieldAddrO 0 x60) fun x61 =>
(bn (fieldAddrO 1 x61) fun x62 =>
(bn (mp (mp (loadO false 1 x62 x53.2) fun x63 => (x63, x53.2)) fun x63 => x63.1) fun x63 =>
(bn (nilCheckD (x53.1.g 0)) fun x64 =>
(bn (fieldAddrO 0 x64) fun x65 =>
(bn (fieldAddrO 1 x65) fun x66 =>
(bn (mp (mp (loadO false 1 x66 x53.2) fun x67 => (x67, x53.2)) fun x67 => x67.1) fun x67 =>
(bn (binO .add 3 false x67 (x53.1.g 3)) fun x68 =>
(bn (sliceStrO x59 (some x63) (some x68) none) fun x69 =>
(bn (nilCheckD (x53.1.g 0)) fun x70 =>
(bn (fieldAddrO 0 x70) fun x71 =>
(bn (fieldAddrO 0 x71) fun x72 =>
(bn (mp (mp (loadO false 1 x72 x53.2) fun x73 => (x73, x53.2)) fun x73 => x73.1) fun x73 =>
(bn (nilCheckD (x53.1.g 0)) fun x74 =>
(bn (fieldAddrO 0 x74) fun x75 =>
(bn (fieldAddrO 1 x75) fun x76 =>
(bn (mp (mp (loadO false 1 x76 x53.2) fun x77 => (x77, x53.2)) fun x77 => x77.1) fun x77 =>
(bn (binO .add 3 true x77 (n64 1)) fun x78 =>
(bn (Option.map D.agg (Option.bind (layCells false 1 0 [(D.str []), (n64 0), (n64 0)] x69) (fun (x79 : (List D)) => (Option.bind (layCells false 1 1 x79 x73) (fun (x80 : (List D)) => (Option.bind (layCells false 1 2 x80 x78) (fun (x81 : (List D)) => (some x81)))))))) fun x79 =>
(bn (mp (mp (Option.map (D.sl Own.full 3) (sliceParts 3 true 0 [(0, x79)])) fun x80 => (x80, ([] : St))) fun x80 => x80.1) fun x80 =>
(bn (appendO 3 32 x56 x80 x53.2) fun x81 =>
(bn (nilCheckD (x53.1.g 0)) fun x82 =>
(bn (fieldAddrO 3 x82) fun x83 =>
(bn (mp (storeO false 1 x83 x81.1 x81.2) fun x84 => ((D.tup []), x84)) fun x84 =>
(@Mode.gs M ((Env × St) ⊕ (Res × St)) True true (bn (nilCheckD (x53.1.g 0)) fun x85 =>
(bn (fieldAddrO 0 x85) fun x86 =>
(bn (call 67 [x86, (x53.1.g 3)] x84.2) fun x87 =>
(Res.elim x87.1 (fun x88 => (some (Sum.inl ((Env.mk (sp [(0, (x53.1.g 0))] 107) (x53.1).df), x87.2)))) (fun x88 => (Option.map (Sum.inr ) (bn (leavesD dcall (fun (x89 : St) => (some (D.tup []))) (x53.1).df (some x88) x87.2) fun x89 =>
(leaveM M RetK.keep A x89.1 x89.2))))))))))))))))))))))))))))))))))))))))) (fun (x53 : ((Env × St) ⊕ (Res × St))) => (some x53)) x52))))) (fun x49 => (Option.map (Sum.inr ) (bn (leavesD dcall (fun (x50 : St) => (some (D.tup []))) (e).df (some x49) x48.2) fun x50 =>
(leaveM M RetK.keep A x50.1 x50.2)))))))))))))))))))))))
(Option.map (Sum.inr ) (bn (leavesD dcall (fun (x33 : St) => (some (D.tup []))) (e).df none Av5) fun x33 =>
(leaveM M RetK.keep A x33.1 x33.2))))))))))))))))))))))))))))))))))))))
noncomputable def f48 (M : Mode) (call : CallT) (dcall : DcallT) (a0 : D) (A : St) : (Option (Res × St)) :=
(@Mode.it M (Res × St) (f48_s0 M call dcall A) (Env.mk (sp [(0, a0)] 107) []) A)
theorem b48 (M : Mode) (call : CallT) (dcall : DcallT) (a0 : D) (A : St) : bodyN M Tryd.prog rxHint kk call dcall 48 [a0] A = f48 M call dcall a0.canon A := by
  kernel_rfl
end Go.Vm.Rx
