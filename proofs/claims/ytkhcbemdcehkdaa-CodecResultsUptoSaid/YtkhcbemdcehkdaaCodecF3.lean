/- Written by a program: what the abstract run of each function comes to, one definition a function, and its equation. -/
import Derived.Test.YtkhcbemdcehkdaaCodecH
import Derived.KernelRfl
set_option linter.all false
namespace Go.Vm.Codec
open Go.Proofs
set_option maxRecDepth 100000
set_option linter.unusedVariables false
set_option maxHeartbeats 0
noncomputable def f18_s0 (call : (FuncId → ((List D) → (St → ORes)))) (dcall : (D → ((List D) → ((Option D) → (St → (Option ((Option D) × St))))))) (A : St) (e : Env) (Av4 : St) : (Option ((Env × St) ⊕ (Res × St))) :=
  (bn (binO BinOp.lss 3 Bool.false (List.getD (e).t 66 D.any) (List.getD (e).t 65 D.any)) fun (x0 : D) =>
 (bn (D.bool? x0) fun (x1 : Bool) =>
 (ifb x1 (bn (indexAddrO 2 Bool.true (List.getD (e).t 64 D.any) (List.getD (e).t 66 D.any)) fun (x2 : D) =>
 (bn (Option.map (fun (x3 : D) => (x3, Av4)) (loadO Bool.true 2 x2 Av4)) fun (x3 : (D × St)) =>
 (bn (allocO [(D.int IntKind.u64 (0 : Int)), (D.sl Own.full 0 [])] (x3).snd) fun (x4 : (D × St)) =>
 (bn (Option.map (fun (x5 : St) => ((D.tup []), x5)) (storeO Bool.true 2 (x4).fst (x3).fst (x4).snd)) fun (x5 : (D × St)) =>
 (bn (fieldAddrO 0 (x4).fst) fun (x6 : D) =>
 (bn (Option.map (fun (x7 : D) => (x7, (x5).snd)) (loadO Bool.false 1 x6 (x5).snd)) fun (x7 : (D × St)) =>
 (bn (Option.map (fun (x8 : D) => (x8, (x7).snd)) (Option.map (D.sl Own.full 1) (sliceParts 1 Bool.false 0 [(0, (x7).fst)]))) fun (x8 : (D × St)) =>
 (bn (call 23 [(List.getD (e).t 5 D.any), (D.int IntKind.i64 (8 : Int)), (x8).fst] (x8).snd) fun (x9 : (Res × St)) =>
 (Res.elim (x9).fst (fun (x10 : D) => (bn (fieldAddrO 1 (x4).fst) fun (x11 : D) =>
 (bn (Option.map (fun (x12 : D) => (x12, (x9).snd)) (loadO Bool.false 1 x11 (x9).snd)) fun (x12 : (D × St)) =>
 (bn (lenSlO (x12).fst) fun (x13 : D) =>
 (bn (convO (ConvK.int IntKind.u64) x13) fun (x14 : D) =>
 (bn (Option.map (fun (x15 : D) => (x15, (x12).snd)) (Option.map (D.sl Own.full 1) (sliceParts 1 Bool.false 0 [(0, x14)]))) fun (x15 : (D × St)) =>
 (bn (call 23 [(List.getD (e).t 5 D.any), (D.int IntKind.i64 (4 : Int)), (x15).fst] (x15).snd) fun (x16 : (Res × St)) =>
 (Res.elim (x16).fst (fun (x17 : D) => (bn (nilCheckD (List.getD (e).t 5 D.any)) fun (x18 : D) =>
 (bn (fieldAddrO 0 x18) fun (x19 : D) =>
 (bn (Option.map (fun (x20 : (D × St)) => (x20).fst) (Option.map (fun (x20 : D) => (x20, (x16).snd)) (loadO Bool.false 1 x19 (x16).snd))) fun (x20 : D) =>
 (bn (fieldAddrO 1 (x4).fst) fun (x21 : D) =>
 (bn (Option.map (fun (x22 : (D × St)) => (x22).fst) (Option.map (fun (x22 : D) => (x22, (x16).snd)) (loadO Bool.false 1 x21 (x16).snd))) fun (x22 : D) =>
 (bn (appendO 1 1 x20 x22 (x16).snd) fun (x23 : (D × St)) =>
 (bn (nilCheckD (List.getD (e).t 5 D.any)) fun (x24 : D) =>
 (bn (fieldAddrO 0 x24) fun (x25 : D) =>
 (bn (Option.map (fun (x26 : St) => ((D.tup []), x26)) (storeO Bool.false 1 x25 (x23).fst (x23).snd)) fun (x26 : (D × St)) =>
 (guardP True (bn (binO BinOp.add 3 Bool.true (List.getD (e).t 66 D.any) (D.int IntKind.i64 (1 : Int))) fun (x27 : D) =>
 (guardP (Kept Av4 (x26).snd) (Option.some (Sum.inl ((Env.mk [D.any, D.any, D.any, D.any, D.any, (D.shut (List.length Av4) (List.getD (e).t 5 D.any)), D.any, D.any, D.any, D.any, D.any, D.any, D.any, D.any, D.any, D.any, D.any, D.any, D.any, D.any, D.any, D.any, D.any, D.any, D.any, D.any, D.any, D.any, D.any, D.any, D.any, D.any, D.any, D.any, D.any, D.any, D.any, D.any, D.any, D.any, D.any, D.any, D.any, D.any, D.any, D.any, D.any, D.any, D.any, D.any, D.any, D.any, D.any, D.any, D.any, D.any, D.any, D.any, D.any, D.any, D.any, D.any, D.any, D.any, (D.shut (List.length Av4) (List.getD (e).t 64 D.any)), (D.shut (List.length Av4) (List.getD (e).t 65 D.any)), (D.shut (List.length Av4) x27), D.any, D.any, D.any, D.any, D.any, D.any, D.any, D.any, D.any, D.any, D.any, D.any, D.any, D.any, D.any, D.any, D.any, D.any, D.any, D.any, D.any, D.any, D.any, D.any, D.any, D.any, D.any, D.any, D.any, D.any] (List.map (fun (x28 : (D × (List D))) => ((D.shut (List.length Av4) x28.1), (D.shutL (List.length Av4) x28.2))) (e).df)), (List.take (List.length Av4) (x26).snd))))))))))))))))) (fun (x17 : D) => (Option.map (Sum.inr ) (bn (leavesD dcall (fun (x18 : St) => (Option.some (D.tup [(List.getD (e).t 2 D.any), (List.getD (e).t 3 D.any)]))) (e).df (Option.some x17) (x16).snd) fun (x18 : (Res × St)) =>
 (leaveD RetK.trunc A (x18).fst (x18).snd)))))))))))) (fun (x10 : D) => (Option.map (Sum.inr ) (bn (leavesD dcall (fun (x11 : St) => (Option.some (D.tup [(List.getD (e).t 2 D.any), (List.getD (e).t 3 D.any)]))) (e).df (Option.some x10) (x9).snd) fun (x11 : (Res × St)) =>
 (leaveD RetK.trunc A (x11).fst (x11).snd)))))))))))))
 (Option.map (Sum.inr ) (bn (nilCheckD (List.getD (e).t 5 D.any)) fun (x2 : D) =>
 (bn (fieldAddrO 0 x2) fun (x3 : D) =>
 (bn (Option.map (fun (x4 : D) => (x4, Av4)) (loadO Bool.false 1 x3 Av4)) fun (x4 : (D × St)) =>
 (bn (leavesD dcall (fun (x5 : St) => (Option.some (D.tup [(x4).fst, (D.int IntKind.i64 (0 : Int))]))) (e).df none (x4).snd) fun (x5 : (Res × St)) =>
 (leaveD RetK.trunc A (x5).fst (x5).snd)))))))))
noncomputable def f18_s1 (call : (FuncId → ((List D) → (St → ORes)))) (dcall : (D → ((List D) → ((Option D) → (St → (Option ((Option D) × St))))))) (A : St) (e : Env) (Av4 : St) : (Option ((Env × St) ⊕ (Res × St))) :=
  (bn (binO BinOp.lss 3 Bool.false (List.getD (e).t 40 D.any) (List.getD (e).t 39 D.any)) fun (x0 : D) =>
 (bn (D.bool? x0) fun (x1 : Bool) =>
 (ifb x1 (bn (indexAddrO 2 Bool.true (List.getD (e).t 38 D.any) (List.getD (e).t 40 D.any)) fun (x2 : D) =>
 (bn (Option.map (fun (x3 : D) => (x3, Av4)) (loadO Bool.true 2 x2 Av4)) fun (x3 : (D × St)) =>
 (bn (allocO [(D.int IntKind.i64 (0 : Int)), (D.int IntKind.u64 (0 : Int))] (x3).snd) fun (x4 : (D × St)) =>
 (bn (Option.map (fun (x5 : St) => ((D.tup []), x5)) (storeO Bool.true 2 (x4).fst (x3).fst (x4).snd)) fun (x5 : (D × St)) =>
 (bn (fieldAddrO 0 (x4).fst) fun (x6 : D) =>
 (bn (Option.map (fun (x7 : D) => (x7, (x5).snd)) (loadO Bool.false 1 x6 (x5).snd)) fun (x7 : (D × St)) =>
 (bn (convO (ConvK.int IntKind.u64) (x7).fst) fun (x8 : D) =>
 (bn (Option.map (fun (x9 : D) => (x9, (x7).snd)) (Option.map (D.sl Own.full 1) (sliceParts 1 Bool.false 0 [(0, x8)]))) fun (x9 : (D × St)) =>
 (bn (call 23 [(List.getD (e).t 5 D.any), (D.int IntKind.i64 (2 : Int)), (x9).fst] (x9).snd) fun (x10 : (Res × St)) =>
 (Res.elim (x10).fst (fun (x11 : D) => (bn (fieldAddrO 1 (x4).fst) fun (x12 : D) =>
 (bn (Option.map (fun (x13 : D) => (x13, (x10).snd)) (loadO Bool.false 1 x12 (x10).snd)) fun (x13 : (D × St)) =>
 (bn (Option.map (fun (x14 : D) => (x14, (x13).snd)) (Option.map (D.sl Own.full 1) (sliceParts 1 Bool.false 0 [(0, (x13).fst)]))) fun (x14 : (D × St)) =>
 (bn (call 23 [(List.getD (e).t 5 D.any), (D.int IntKind.i64 (8 : Int)), (x14).fst] (x14).snd) fun (x15 : (Res × St)) =>
 (Res.elim (x15).fst (fun (x16 : D) => (bn (binO BinOp.add 3 Bool.true (List.getD (e).t 40 D.any) (D.int IntKind.i64 (1 : Int))) fun (x17 : D) =>
 (guardP (Kept Av4 (x15).snd) (Option.some (Sum.inl ((Env.mk [D.any, (D.shut (List.length Av4) (List.getD (e).t 1 D.any)), D.any, D.any, D.any, (D.shut (List.length Av4) (List.getD (e).t 5 D.any)), D.any, D.any, D.any, D.any, D.any, D.any, D.any, D.any, D.any, D.any, D.any, D.any, D.any, D.any, D.any, D.any, D.any, D.any, D.any, D.any, D.any, D.any, D.any, D.any, D.any, D.any, D.any, D.any, D.any, D.any, D.any, D.any, (D.shut (List.length Av4) (List.getD (e).t 38 D.any)), (D.shut (List.length Av4) (List.getD (e).t 39 D.any)), (D.shut (List.length Av4) x17), D.any, D.any, D.any, D.any, D.any, D.any, D.any, D.any, D.any, D.any, D.any, D.any, D.any, D.any, D.any, D.any, D.any, D.any, D.any, D.any, D.any, D.any, D.any, D.any, D.any, D.any, D.any, D.any, D.any, D.any, D.any, D.any, D.any, D.any, D.any, D.any, D.any, D.any, D.any, D.any, D.any, D.any, D.any, D.any, D.any, D.any, D.any, D.any, D.any, D.any, D.any, D.any, D.any, D.any, D.any, D.any] (List.map (fun (x18 : (D × (List D))) => ((D.shut (List.length Av4) x18.1), (D.shutL (List.length Av4) x18.2))) (e).df)), (List.take (List.length Av4) (x15).snd))))))) (fun (x16 : D) => (Option.map (Sum.inr ) (bn (leavesD dcall (fun (x17 : St) => (Option.some (D.tup [(List.getD (e).t 2 D.any), (List.getD (e).t 3 D.any)]))) (e).df (Option.some x16) (x15).snd) fun (x17 : (Res × St)) =>
 (leaveD RetK.trunc A (x17).fst (x17).snd)))))))))) (fun (x11 : D) => (Option.map (Sum.inr ) (bn (leavesD dcall (fun (x12 : St) => (Option.some (D.tup [(List.getD (e).t 2 D.any), (List.getD (e).t 3 D.any)]))) (e).df (Option.some x11) (x10).snd) fun (x12 : (Res × St)) =>
 (leaveD RetK.trunc A (x12).fst (x12).snd))))))))))))))
 (Option.map (Sum.inr ) (bn (fieldAddrO 3 (List.getD (e).t 1 D.any)) fun (x2 : D) =>
 (bn (Option.map (fun (x3 : D) => (x3, Av4)) (loadO Bool.false 1 x2 Av4)) fun (x3 : (D × St)) =>
 (bn (lenSlO (x3).fst) fun (x4 : D) =>
 (bn (convO (ConvK.int IntKind.u64) x4) fun (x5 : D) =>
 (bn (Option.map (fun (x6 : D) => (x6, (x3).snd)) (Option.map (D.sl Own.full 1) (sliceParts 1 Bool.false 0 [(0, x5)]))) fun (x6 : (D × St)) =>
 (bn (call 23 [(List.getD (e).t 5 D.any), (D.int IntKind.i64 (2 : Int)), (x6).fst] (x6).snd) fun (x7 : (Res × St)) =>
 (Res.elim (x7).fst (fun (x8 : D) => (bn (fieldAddrO 3 (List.getD (e).t 1 D.any)) fun (x9 : D) =>
 (bn (Option.map (fun (x10 : D) => (x10, (x7).snd)) (loadO Bool.false 1 x9 (x7).snd)) fun (x10 : (D × St)) =>
 (bn (lenSlO (x10).fst) fun (x11 : D) =>
 (iterK (f18_s0 call dcall A) (Env.mk [D.any, D.any, D.any, D.any, D.any, (List.getD (e).t 5 D.any), D.any, D.any, D.any, D.any, D.any, D.any, D.any, D.any, D.any, D.any, D.any, D.any, D.any, D.any, D.any, D.any, D.any, D.any, D.any, D.any, D.any, D.any, D.any, D.any, D.any, D.any, D.any, D.any, D.any, D.any, D.any, D.any, D.any, D.any, D.any, D.any, D.any, D.any, D.any, D.any, D.any, D.any, D.any, D.any, D.any, D.any, D.any, D.any, D.any, D.any, D.any, D.any, D.any, D.any, D.any, D.any, D.any, D.any, (x10).fst, x11, (D.int IntKind.i64 (0 : Int)), D.any, D.any, D.any, D.any, D.any, D.any, D.any, D.any, D.any, D.any, D.any, D.any, D.any, D.any, D.any, D.any, D.any, D.any, D.any, D.any, D.any, D.any, D.any, D.any, D.any, D.any, D.any, D.any, D.any, D.any] (e).df) (x10).snd))))) (fun (x8 : D) => (bn (leavesD dcall (fun (x9 : St) => (Option.some (D.tup [(List.getD (e).t 2 D.any), (List.getD (e).t 3 D.any)]))) (e).df (Option.some x8) (x7).snd) fun (x9 : (Res × St)) =>
 (leaveD RetK.trunc A (x9).fst (x9).snd))))))))))))))
noncomputable def f18 (call : (FuncId → ((List D) → (St → ORes)))) (dcall : (D → ((List D) → ((Option D) → (St → (Option ((Option D) × St))))))) (a0 : D) (A : St) : (Option (Res × St)) :=
  (bn (boxO Bool.true a0 A) fun (x0 : (D × St)) =>
 (bn (Option.map (fun (x1 : D) => (x1, (x0).snd)) (loadO Bool.true 4 (x0).fst (x0).snd)) fun (x1 : (D × St)) =>
 (bn (call 20 [(x1).fst] (x1).snd) fun (x2 : (Res × St)) =>
 (Res.elim (x2).fst (fun (x3 : D) => (bn (binO BinOp.neq 3 Bool.true x3 (D.int IntKind.i64 (0 : Int))) fun (x4 : D) =>
 (bn (D.bool? x4) fun (x5 : Bool) =>
 (ifb x5 (leaveD RetK.trunc A (Res.ret (D.tup [(D.sl Own.full 0 []), x3])) (x2).snd)
 (bn (Option.map (fun (x6 : D) => (x6, (x2).snd)) (Option.map (D.sl Own.full 1) (sliceParts 1 Bool.false 0 [(0, (D.int IntKind.u8 (82 : Int)))]))) fun (x6 : (D × St)) =>
 (bn (tokO [(0, 1)] (x6).fst (x6).snd) fun (x7 : (D × St)) =>
 (bn (Option.map D.agg (Option.bind (layCells Bool.false 1 0 [(D.sl Own.full 0 [])] (x7).fst) (fun (x8 : (List D)) => (Option.some x8)))) fun (x8 : D) =>
 (bn (boxO Bool.true x8 (x7).snd) fun (x9 : (D × St)) =>
 (bn (fieldAddrO 0 (x0).fst) fun (x10 : D) =>
 (bn (Option.map (fun (x11 : D) => (x11, (x9).snd)) (loadO Bool.false 1 x10 (x9).snd)) fun (x11 : (D × St)) =>
 (bn (convO (ConvK.int IntKind.u64) (x11).fst) fun (x12 : D) =>
 (bn (Option.map (fun (x13 : D) => (x13, (x11).snd)) (Option.map (D.sl Own.full 1) (sliceParts 1 Bool.false 0 [(0, x12)]))) fun (x13 : (D × St)) =>
 (bn (call 23 [(x9).fst, (D.int IntKind.i64 (2 : Int)), (x13).fst] (x13).snd) fun (x14 : (Res × St)) =>
 (Res.elim (x14).fst (fun (x15 : D) => (bn (fieldAddrO 1 (x0).fst) fun (x16 : D) =>
 (bn (Option.map (fun (x17 : D) => (x17, (x14).snd)) (loadO Bool.false 1 x16 (x14).snd)) fun (x17 : (D × St)) =>
 (bn (convO (ConvK.int IntKind.u64) (x17).fst) fun (x18 : D) =>
 (bn (Option.map (fun (x19 : D) => (x19, (x17).snd)) (Option.map (D.sl Own.full 1) (sliceParts 1 Bool.false 0 [(0, x18)]))) fun (x19 : (D × St)) =>
 (bn (call 23 [(x9).fst, (D.int IntKind.i64 (4 : Int)), (x19).fst] (x19).snd) fun (x20 : (Res × St)) =>
 (Res.elim (x20).fst (fun (x21 : D) => (bn (fieldAddrO 2 (x0).fst) fun (x22 : D) =>
 (bn (Option.map (fun (x23 : D) => (x23, (x20).snd)) (loadO Bool.false 1 x22 (x20).snd)) fun (x23 : (D × St)) =>
 (bn (lenSlO (x23).fst) fun (x24 : D) =>
 (bn (convO (ConvK.int IntKind.u64) x24) fun (x25 : D) =>
 (bn (Option.map (fun (x26 : D) => (x26, (x23).snd)) (Option.map (D.sl Own.full 1) (sliceParts 1 Bool.false 0 [(0, x25)]))) fun (x26 : (D × St)) =>
 (bn (call 23 [(x9).fst, (D.int IntKind.i64 (2 : Int)), (x26).fst] (x26).snd) fun (x27 : (Res × St)) =>
 (Res.elim (x27).fst (fun (x28 : D) => (bn (fieldAddrO 2 (x0).fst) fun (x29 : D) =>
 (bn (Option.map (fun (x30 : D) => (x30, (x27).snd)) (loadO Bool.false 1 x29 (x27).snd)) fun (x30 : (D × St)) =>
 (bn (lenSlO (x30).fst) fun (x31 : D) =>
 (iterK (f18_s1 call dcall A) (Env.mk [D.any, (x0).fst, D.any, D.any, D.any, (x9).fst, D.any, D.any, D.any, D.any, D.any, D.any, D.any, D.any, D.any, D.any, D.any, D.any, D.any, D.any, D.any, D.any, D.any, D.any, D.any, D.any, D.any, D.any, D.any, D.any, D.any, D.any, D.any, D.any, D.any, D.any, D.any, D.any, (x30).fst, x31, (D.int IntKind.i64 (0 : Int)), D.any, D.any, D.any, D.any, D.any, D.any, D.any, D.any, D.any, D.any, D.any, D.any, D.any, D.any, D.any, D.any, D.any, D.any, D.any, D.any, D.any, D.any, D.any, D.any, D.any, D.any, D.any, D.any, D.any, D.any, D.any, D.any, D.any, D.any, D.any, D.any, D.any, D.any, D.any, D.any, D.any, D.any, D.any, D.any, D.any, D.any, D.any, D.any, D.any, D.any, D.any, D.any, D.any, D.any, D.any, D.any] []) (x30).snd))))) (fun (x28 : D) => (leaveD RetK.trunc A (Res.pan x28) (x27).snd)))))))))) (fun (x21 : D) => (leaveD RetK.trunc A (Res.pan x21) (x20).snd))))))))) (fun (x15 : D) => (leaveD RetK.trunc A (Res.pan x15) (x14).snd)))))))))))))))) (fun (x3 : D) => (leaveD RetK.trunc A (Res.pan x3) (x2).snd))))))
theorem r18 (a0 : D) (A : St) : Run Try.prog codecH 18 [a0] A = f18 (Run Try.prog codecH) (Dcall Try.prog codecH) a0 A := by
  rw [Run_eqK (J := k18)]
  kernel_rfl
noncomputable def f19_s0 (call : (FuncId → ((List D) → (St → ORes)))) (dcall : (D → ((List D) → ((Option D) → (St → (Option ((Option D) × St))))))) (A : St) (e : Env) (Av4 : St) : (Option ((Env × St) ⊕ (Res × St))) :=
  (bn (fieldAddrO 3 (List.getD (e).t 1 D.any)) fun (x0 : D) =>
 (bn (Option.map (fun (x1 : D) => (x1, Av4)) (loadO Bool.false 1 x0 Av4)) fun (x1 : (D × St)) =>
 (bn (lenSlO (x1).fst) fun (x2 : D) =>
 (bn (binO BinOp.lss 3 Bool.false (List.getD (e).t 7 D.any) x2) fun (x3 : D) =>
 (bn (D.bool? x3) fun (x4 : Bool) =>
 (ifb x4 (bn (fieldAddrO 3 (List.getD (e).t 1 D.any)) fun (x5 : D) =>
 (bn (Option.map (fun (x6 : (D × St)) => (x6).fst) (Option.map (fun (x6 : D) => (x6, (x1).snd)) (loadO Bool.false 1 x5 (x1).snd))) fun (x6 : D) =>
 (bn (indexAddrO 2 Bool.true x6 (List.getD (e).t 7 D.any)) fun (x7 : D) =>
 (bn (fieldAddrO 0 x7) fun (x8 : D) =>
 (bn (Option.map (fun (x9 : (D × St)) => (x9).fst) (Option.map (fun (x9 : D) => (x9, (x1).snd)) (loadO Bool.false 1 x8 (x1).snd))) fun (x9 : D) =>
 (bn (call 24 [(List.getD (e).t 5 D.any), x9, (D.int IntKind.i64 (8 : Int))] (x1).snd) fun (x10 : (Res × St)) =>
 (Res.elim (x10).fst (fun (x11 : D) => (bn (fieldAddrO 3 (List.getD (e).t 1 D.any)) fun (x12 : D) =>
 (bn (Option.map (fun (x13 : (D × St)) => (x13).fst) (Option.map (fun (x13 : D) => (x13, (x10).snd)) (loadO Bool.false 1 x12 (x10).snd))) fun (x13 : D) =>
 (bn (indexAddrO 2 Bool.true x13 (List.getD (e).t 7 D.any)) fun (x14 : D) =>
 (bn (fieldAddrO 1 x14) fun (x15 : D) =>
 (bn (Option.map (fun (x16 : (D × St)) => (x16).fst) (Option.map (fun (x16 : D) => (x16, (x10).snd)) (loadO Bool.false 1 x15 (x10).snd))) fun (x16 : D) =>
 (bn (lenSlO x16) fun (x17 : D) =>
 (bn (convO (ConvK.int IntKind.u64) x17) fun (x18 : D) =>
 (bn (call 24 [x11, x18, (D.int IntKind.i64 (4 : Int))] (x10).snd) fun (x19 : (Res × St)) =>
 (Res.elim (x19).fst (fun (x20 : D) => (guardP ((sameAd x12 (x1).snd (x10).snd) ∧ ((sameAd x15 (x1).snd (x10).snd) ∧ True)) (bn (fieldAddrO 3 (List.getD (e).t 1 D.any)) fun (x21 : D) =>
 (bn (Option.map (fun (x22 : D) => (x22, (x19).snd)) (loadO Bool.false 1 x21 (x19).snd)) fun (x22 : (D × St)) =>
 (bn (indexAddrO 2 Bool.true (x22).fst (List.getD (e).t 7 D.any)) fun (x23 : D) =>
 (bn (fieldAddrO 1 x23) fun (x24 : D) =>
 (bn (Option.map (fun (x25 : D) => (x25, (x22).snd)) (loadO Bool.false 1 x24 (x22).snd)) fun (x25 : (D × St)) =>
 (bn (appendO 1 1 x20 (x25).fst (x25).snd) fun (x26 : (D × St)) =>
 (bn (binO BinOp.add 3 Bool.true (List.getD (e).t 7 D.any) (D.int IntKind.i64 (1 : Int))) fun (x27 : D) =>
 (guardP (Kept Av4 (x26).snd) (Option.some (Sum.inl ((Env.mk [D.any, (D.shut (List.length Av4) (List.getD (e).t 1 D.any)), D.any, D.any, D.any, (D.shut (List.length Av4) (x26).fst), D.any, (D.shut (List.length Av4) x27), D.any, D.any, D.any, D.any, D.any, D.any, D.any, D.any, D.any, D.any, D.any, D.any, D.any, D.any, D.any, D.any, D.any, D.any, D.any, D.any, D.any, D.any, D.any, D.any, D.any, D.any, D.any, D.any, D.any, D.any, D.any, D.any, D.any, D.any, D.any, D.any, D.any, D.any, D.any, D.any, D.any, D.any, D.any, D.any, D.any, D.any, D.any, D.any, D.any, D.any, D.any, D.any, D.any, D.any, D.any, D.any, D.any, D.any, D.any, D.any, D.any, D.any, D.any, D.any, D.any, D.any, D.any, D.any, D.any, D.any, D.any, D.any, D.any, D.any, D.any, D.any, D.any, D.any, D.any, D.any, D.any, D.any] (List.map (fun (x28 : (D × (List D))) => ((D.shut (List.length Av4) x28.1), (D.shutL (List.length Av4) x28.2))) (e).df)), (List.take (List.length Av4) (x26).snd)))))))))))))) (fun (x20 : D) => (guardP ((sameAd x12 (x1).snd (x10).snd) ∧ ((sameAd x15 (x1).snd (x10).snd) ∧ True)) (Option.map (Sum.inr ) (bn (leavesD dcall (fun (x21 : St) => (Option.some (D.tup [(List.getD (e).t 2 D.any), (List.getD (e).t 3 D.any)]))) (e).df (Option.some x20) (x19).snd) fun (x21 : (Res × St)) =>
 (leaveD RetK.trunc A (x21).fst (x21).snd))))))))))))))) (fun (x11 : D) => none))))))))
 (Option.map (Sum.inr ) (bn (leavesD dcall (fun (x5 : St) => (Option.some (D.tup [(List.getD (e).t 5 D.any), (D.int IntKind.i64 (0 : Int))]))) (e).df none (x1).snd) fun (x5 : (Res × St)) =>
 (leaveD RetK.trunc A (x5).fst (x5).snd)))))))))
noncomputable def f19_s1 (call : (FuncId → ((List D) → (St → ORes)))) (dcall : (D → ((List D) → ((Option D) → (St → (Option ((Option D) × St))))))) (A : St) (e : Env) (Av4 : St) : (Option ((Env × St) ⊕ (Res × St))) :=
  (bn (fieldAddrO 2 (List.getD (e).t 1 D.any)) fun (x0 : D) =>
 (bn (Option.map (fun (x1 : D) => (x1, Av4)) (loadO Bool.false 1 x0 Av4)) fun (x1 : (D × St)) =>
 (bn (lenSlO (x1).fst) fun (x2 : D) =>
 (bn (binO BinOp.lss 3 Bool.false (List.getD (e).t 6 D.any) x2) fun (x3 : D) =>
 (bn (D.bool? x3) fun (x4 : Bool) =>
 (ifb x4 (bn (fieldAddrO 2 (List.getD (e).t 1 D.any)) fun (x5 : D) =>
 (bn (Option.map (fun (x6 : (D × St)) => (x6).fst) (Option.map (fun (x6 : D) => (x6, (x1).snd)) (loadO Bool.false 1 x5 (x1).snd))) fun (x6 : D) =>
 (bn (indexAddrO 2 Bool.true x6 (List.getD (e).t 6 D.any)) fun (x7 : D) =>
 (bn (fieldAddrO 0 x7) fun (x8 : D) =>
 (bn (Option.map (fun (x9 : (D × St)) => (x9).fst) (Option.map (fun (x9 : D) => (x9, (x1).snd)) (loadO Bool.false 1 x8 (x1).snd))) fun (x9 : D) =>
 (bn (convO (ConvK.int IntKind.u64) x9) fun (x10 : D) =>
 (bn (call 24 [(List.getD (e).t 5 D.any), x10, (D.int IntKind.i64 (2 : Int))] (x1).snd) fun (x11 : (Res × St)) =>
 (Res.elim (x11).fst (fun (x12 : D) => (bn (fieldAddrO 2 (List.getD (e).t 1 D.any)) fun (x13 : D) =>
 (bn (Option.map (fun (x14 : (D × St)) => (x14).fst) (Option.map (fun (x14 : D) => (x14, (x11).snd)) (loadO Bool.false 1 x13 (x11).snd))) fun (x14 : D) =>
 (bn (indexAddrO 2 Bool.true x14 (List.getD (e).t 6 D.any)) fun (x15 : D) =>
 (bn (fieldAddrO 1 x15) fun (x16 : D) =>
 (bn (Option.map (fun (x17 : (D × St)) => (x17).fst) (Option.map (fun (x17 : D) => (x17, (x11).snd)) (loadO Bool.false 1 x16 (x11).snd))) fun (x17 : D) =>
 (bn (call 24 [x12, x17, (D.int IntKind.i64 (8 : Int))] (x11).snd) fun (x18 : (Res × St)) =>
 (Res.elim (x18).fst (fun (x19 : D) => (guardP ((sameAd x13 (x1).snd (x11).snd) ∧ ((sameAd x16 (x1).snd (x11).snd) ∧ True)) (bn (binO BinOp.add 3 Bool.true (List.getD (e).t 6 D.any) (D.int IntKind.i64 (1 : Int))) fun (x20 : D) =>
 (guardP (Kept Av4 (x18).snd) (Option.some (Sum.inl ((Env.mk [D.any, (D.shut (List.length Av4) (List.getD (e).t 1 D.any)), D.any, D.any, D.any, (D.shut (List.length Av4) x19), (D.shut (List.length Av4) x20), D.any, D.any, D.any, D.any, D.any, D.any, D.any, D.any, D.any, D.any, D.any, D.any, D.any, D.any, D.any, D.any, D.any, D.any, D.any, D.any, D.any, D.any, D.any, D.any, D.any, D.any, D.any, D.any, D.any, D.any, D.any, D.any, D.any, D.any, D.any, D.any, D.any, D.any, D.any, D.any, D.any, D.any, D.any, D.any, D.any, D.any, D.any, D.any, D.any, D.any, D.any, D.any, D.any, D.any, D.any, D.any, D.any, D.any, D.any, D.any, D.any, D.any, D.any, D.any, D.any, D.any, D.any, D.any, D.any, D.any, D.any, D.any, D.any, D.any, D.any, D.any, D.any, D.any, D.any, D.any, D.any, D.any, D.any] (List.map (fun (x21 : (D × (List D))) => ((D.shut (List.length Av4) x21.1), (D.shutL (List.length Av4) x21.2))) (e).df)), (List.take (List.length Av4) (x18).snd)))))))) (fun (x19 : D) => (guardP ((sameAd x13 (x1).snd (x11).snd) ∧ ((sameAd x16 (x1).snd (x11).snd) ∧ True)) (Option.map (Sum.inr ) (bn (leavesD dcall (fun (x20 : St) => (Option.some (D.tup [(List.getD (e).t 2 D.any), (List.getD (e).t 3 D.any)]))) (e).df (Option.some x19) (x18).snd) fun (x20 : (Res × St)) =>
 (leaveD RetK.trunc A (x20).fst (x20).snd))))))))))))) (fun (x12 : D) => none)))))))))
 (Option.map (Sum.inr ) (bn (fieldAddrO 3 (List.getD (e).t 1 D.any)) fun (x5 : D) =>
 (bn (Option.map (fun (x6 : D) => (x6, (x1).snd)) (loadO Bool.false 1 x5 (x1).snd)) fun (x6 : (D × St)) =>
 (bn (lenSlO (x6).fst) fun (x7 : D) =>
 (bn (convO (ConvK.int IntKind.u64) x7) fun (x8 : D) =>
 (bn (call 24 [(List.getD (e).t 5 D.any), x8, (D.int IntKind.i64 (2 : Int))] (x6).snd) fun (x9 : (Res × St)) =>
 (Res.elim (x9).fst (fun (x10 : D) => (iterK (f19_s0 call dcall A) (Env.mk [D.any, (List.getD (e).t 1 D.any), D.any, D.any, D.any, x10, D.any, (D.int IntKind.i64 (0 : Int)), D.any, D.any, D.any, D.any, D.any, D.any, D.any, D.any, D.any, D.any, D.any, D.any, D.any, D.any, D.any, D.any, D.any, D.any, D.any, D.any, D.any, D.any, D.any, D.any, D.any, D.any, D.any, D.any, D.any, D.any, D.any, D.any, D.any, D.any, D.any, D.any, D.any, D.any, D.any, D.any, D.any, D.any, D.any, D.any, D.any, D.any, D.any, D.any, D.any, D.any, D.any, D.any, D.any, D.any, D.any, D.any, D.any, D.any, D.any, D.any, D.any, D.any, D.any, D.any, D.any, D.any, D.any, D.any, D.any, D.any, D.any, D.any, D.any, D.any, D.any, D.any, D.any, D.any, D.any, D.any, D.any, D.any] (e).df) (x9).snd)) (fun (x10 : D) => (bn (leavesD dcall (fun (x11 : St) => (Option.some (D.tup [(List.getD (e).t 2 D.any), (List.getD (e).t 3 D.any)]))) (e).df (Option.some x10) (x9).snd) fun (x11 : (Res × St)) =>
 (leaveD RetK.trunc A (x11).fst (x11).snd))))))))))))))))
noncomputable def f19 (call : (FuncId → ((List D) → (St → ORes)))) (dcall : (D → ((List D) → ((Option D) → (St → (Option ((Option D) × St))))))) (a0 : D) (A : St) : (Option (Res × St)) :=
  (bn (boxO Bool.true a0 A) fun (x0 : (D × St)) =>
 (bn (Option.map (fun (x1 : D) => (x1, (x0).snd)) (loadO Bool.true 4 (x0).fst (x0).snd)) fun (x1 : (D × St)) =>
 (bn (call 21 [(x1).fst] (x1).snd) fun (x2 : (Res × St)) =>
 (Res.elim (x2).fst (fun (x3 : D) => (bn (binO BinOp.neq 3 Bool.true x3 (D.int IntKind.i64 (0 : Int))) fun (x4 : D) =>
 (bn (D.bool? x4) fun (x5 : Bool) =>
 (ifb x5 (leaveD RetK.trunc A (Res.ret (D.tup [(D.sl Own.full 0 []), x3])) (x2).snd)
 (bn (Option.map (fun (x6 : (D × St)) => (x6).fst) (Option.map (fun (x6 : D) => (x6, [])) (Option.map (D.sl Own.full 1) (sliceParts 1 Bool.false 0 [(0, (D.int IntKind.u8 (82 : Int)))])))) fun (x6 : D) =>
 (bn (fieldAddrO 0 (x0).fst) fun (x7 : D) =>
 (bn (Option.map (fun (x8 : (D × St)) => (x8).fst) (Option.map (fun (x8 : D) => (x8, (x2).snd)) (loadO Bool.false 1 x7 (x2).snd))) fun (x8 : D) =>
 (bn (convO (ConvK.int IntKind.u64) x8) fun (x9 : D) =>
 (bn (call 24 [x6, x9, (D.int IntKind.i64 (2 : Int))] (x2).snd) fun (x10 : (Res × St)) =>
 (Res.elim (x10).fst (fun (x11 : D) => (bn (fieldAddrO 1 (x0).fst) fun (x12 : D) =>
 (bn (Option.map (fun (x13 : (D × St)) => (x13).fst) (Option.map (fun (x13 : D) => (x13, (x10).snd)) (loadO Bool.false 1 x12 (x10).snd))) fun (x13 : D) =>
 (bn (convO (ConvK.int IntKind.u64) x13) fun (x14 : D) =>
 (bn (call 24 [x11, x14, (D.int IntKind.i64 (4 : Int))] (x10).snd) fun (x15 : (Res × St)) =>
 (Res.elim (x15).fst (fun (x16 : D) => (guardP ((sameAd x12 (x2).snd (x10).snd) ∧ True) (bn (fieldAddrO 2 (x0).fst) fun (x17 : D) =>
 (bn (Option.map (fun (x18 : D) => (x18, (x15).snd)) (loadO Bool.false 1 x17 (x15).snd)) fun (x18 : (D × St)) =>
 (bn (lenSlO (x18).fst) fun (x19 : D) =>
 (bn (convO (ConvK.int IntKind.u64) x19) fun (x20 : D) =>
 (bn (call 24 [x16, x20, (D.int IntKind.i64 (2 : Int))] (x18).snd) fun (x21 : (Res × St)) =>
 (Res.elim (x21).fst (fun (x22 : D) => (iterK (f19_s1 call dcall A) (Env.mk [D.any, (x0).fst, D.any, D.any, D.any, x22, (D.int IntKind.i64 (0 : Int)), D.any, D.any, D.any, D.any, D.any, D.any, D.any, D.any, D.any, D.any, D.any, D.any, D.any, D.any, D.any, D.any, D.any, D.any, D.any, D.any, D.any, D.any, D.any, D.any, D.any, D.any, D.any, D.any, D.any, D.any, D.any, D.any, D.any, D.any, D.any, D.any, D.any, D.any, D.any, D.any, D.any, D.any, D.any, D.any, D.any, D.any, D.any, D.any, D.any, D.any, D.any, D.any, D.any, D.any, D.any, D.any, D.any, D.any, D.any, D.any, D.any, D.any, D.any, D.any, D.any, D.any, D.any, D.any, D.any, D.any, D.any, D.any, D.any, D.any, D.any, D.any, D.any, D.any, D.any, D.any, D.any, D.any, D.any] []) (x21).snd)) (fun (x22 : D) => (leaveD RetK.trunc A (Res.pan x22) (x21).snd)))))))))) (fun (x16 : D) => (guardP ((sameAd x12 (x2).snd (x10).snd) ∧ True) (leaveD RetK.trunc A (Res.pan x16) (x15).snd))))))))) (fun (x11 : D) => none))))))))))) (fun (x3 : D) => (leaveD RetK.trunc A (Res.pan x3) (x2).snd))))))
theorem r19 (a0 : D) (A : St) : Run Try.prog codecH 19 [a0] A = f19 (Run Try.prog codecH) (Dcall Try.prog codecH) a0 A := by
  rw [Run_eqK (J := k19)]
  kernel_rfl
noncomputable def f20_s0 (call : (FuncId → ((List D) → (St → ORes)))) (dcall : (D → ((List D) → ((Option D) → (St → (Option ((Option D) × St))))))) (A : St) (e : Env) (Av4 : St) : (Option ((Env × St) ⊕ (Res × St))) :=
  (bn (binO BinOp.lss 3 Bool.false (List.getD (e).t 57 D.any) (List.getD (e).t 56 D.any)) fun (x0 : D) =>
 (bn (D.bool? x0) fun (x1 : Bool) =>
 (ifb x1 (bn (indexAddrO 2 Bool.true (List.getD (e).t 55 D.any) (List.getD (e).t 57 D.any)) fun (x2 : D) =>
 (bn (Option.map (fun (x3 : D) => (x3, Av4)) (loadO Bool.true 2 x2 Av4)) fun (x3 : (D × St)) =>
 (bn (allocO [(D.int IntKind.u64 (0 : Int)), (D.sl Own.full 0 [])] (x3).snd) fun (x4 : (D × St)) =>
 (bn (Option.map (fun (x5 : St) => ((D.tup []), x5)) (storeO Bool.true 2 (x4).fst (x3).fst (x4).snd)) fun (x5 : (D × St)) =>
 (bn (fieldAddrO 1 (x4).fst) fun (x6 : D) =>
 (bn (Option.map (fun (x7 : D) => (x7, (x5).snd)) (loadO Bool.false 1 x6 (x5).snd)) fun (x7 : (D × St)) =>
 (bn (lenSlO (x7).fst) fun (x8 : D) =>
 (bn (binO BinOp.eql 3 Bool.true x8 (D.int IntKind.i64 (0 : Int))) fun (x9 : D) =>
 (bn (D.bool? x9) fun (x10 : Bool) =>
 (ifb x10 (Option.map (Sum.inr ) (bn (leavesD dcall (fun (x11 : St) => (Option.some (D.int IntKind.i64 (40 : Int)))) (e).df none (x7).snd) fun (x11 : (Res × St)) =>
 (leaveD RetK.trunc A (x11).fst (x11).snd)))
 (bn (fieldAddrO 1 (x4).fst) fun (x11 : D) =>
 (bn (Option.map (fun (x12 : D) => (x12, (x7).snd)) (loadO Bool.false 1 x11 (x7).snd)) fun (x12 : (D × St)) =>
 (bn (lenSlO (x12).fst) fun (x13 : D) =>
 (bn (binO BinOp.add 3 Bool.true (D.int IntKind.i64 (12 : Int)) x13) fun (x14 : D) =>
 (bn (binO BinOp.add 3 Bool.false (List.getD (e).t 6 D.any) x14) fun (x15 : D) =>
 (bn (binO BinOp.add 3 Bool.true (List.getD (e).t 57 D.any) (D.int IntKind.i64 (1 : Int))) fun (x16 : D) =>
 (guardP (Kept Av4 (x12).snd) (Option.some (Sum.inl ((Env.mk [D.any, D.any, D.any, D.any, D.any, D.any, (D.shut (List.length Av4) x15), D.any, D.any, D.any, D.any, D.any, D.any, D.any, D.any, D.any, D.any, D.any, D.any, D.any, D.any, D.any, D.any, D.any, D.any, D.any, D.any, D.any, D.any, D.any, D.any, D.any, D.any, D.any, D.any, D.any, D.any, D.any, D.any, D.any, D.any, D.any, D.any, D.any, D.any, D.any, D.any, D.any, D.any, D.any, D.any, D.any, D.any, D.any, D.any, (D.shut (List.length Av4) (List.getD (e).t 55 D.any)), (D.shut (List.length Av4) (List.getD (e).t 56 D.any)), (D.shut (List.length Av4) x16), D.any, D.any, D.any, D.any, D.any, D.any, D.any, D.any, D.any, D.any, D.any, D.any, D.any, D.any, D.any, D.any] (List.map (fun (x17 : (D × (List D))) => ((D.shut (List.length Av4) x17.1), (D.shutL (List.length Av4) x17.2))) (e).df)), (List.take (List.length Av4) (x12).snd)))))))))))))))))))))
 (Option.map (Sum.inr ) (bn (binO BinOp.gtr 3 Bool.true (List.getD (e).t 6 D.any) (D.int IntKind.i64 (1048576 : Int))) fun (x2 : D) =>
 (bn (D.bool? x2) fun (x3 : Bool) =>
 (ifb x3 (bn (leavesD dcall (fun (x4 : St) => (Option.some (D.int IntKind.i64 (2 : Int)))) (e).df none Av4) fun (x4 : (Res × St)) =>
 (leaveD RetK.trunc A (x4).fst (x4).snd))
 (bn (leavesD dcall (fun (x4 : St) => (Option.some (D.int IntKind.i64 (0 : Int)))) (e).df none Av4) fun (x4 : (Res × St)) =>
 (leaveD RetK.trunc A (x4).fst (x4).snd)))))))))
noncomputable def f20_s1 (call : (FuncId → ((List D) → (St → ORes)))) (dcall : (D → ((List D) → ((Option D) → (St → (Option ((Option D) × St))))))) (A : St) (e : Env) (Av4 : St) : (Option ((Env × St) ⊕ (Res × St))) :=
  (bn (binO BinOp.lss 3 Bool.false (List.getD (e).t 41 D.any) (List.getD (e).t 40 D.any)) fun (x0 : D) =>
 (bn (D.bool? x0) fun (x1 : Bool) =>
 (ifb x1 (bn (indexAddrO 2 Bool.true (List.getD (e).t 39 D.any) (List.getD (e).t 41 D.any)) fun (x2 : D) =>
 (bn (Option.map (fun (x3 : D) => (x3, Av4)) (loadO Bool.true 2 x2 Av4)) fun (x3 : (D × St)) =>
 (bn (allocO [(D.int IntKind.u64 (0 : Int)), (D.sl Own.full 0 [])] (x3).snd) fun (x4 : (D × St)) =>
 (bn (Option.map (fun (x5 : St) => ((D.tup []), x5)) (storeO Bool.true 2 (x4).fst (x3).fst (x4).snd)) fun (x5 : (D × St)) =>
 (bn (fieldAddrO 0 (x4).fst) fun (x6 : D) =>
 (bn (Option.map (fun (x7 : D) => (x7, (x5).snd)) (loadO Bool.false 1 x6 (x5).snd)) fun (x7 : (D × St)) =>
 (bn (binO BinOp.eql 3 Bool.true (x7).fst (D.int IntKind.u64 (0 : Int))) fun (x8 : D) =>
 (bn (D.bool? x8) fun (x9 : Bool) =>
 (ifb x9 (Option.map (Sum.inr ) (bn (leavesD dcall (fun (x10 : St) => (Option.some (D.int IntKind.i64 (80 : Int)))) (e).df none (x7).snd) fun (x10 : (Res × St)) =>
 (leaveD RetK.trunc A (x10).fst (x10).snd)))
 (bn (binO BinOp.add 3 Bool.true (List.getD (e).t 41 D.any) (D.int IntKind.i64 (1 : Int))) fun (x10 : D) =>
 (guardP (Kept Av4 (x7).snd) (Option.some (Sum.inl ((Env.mk [D.any, (D.shut (List.length Av4) (List.getD (e).t 1 D.any)), D.any, D.any, D.any, D.any, D.any, D.any, D.any, D.any, D.any, D.any, D.any, D.any, D.any, D.any, D.any, D.any, D.any, D.any, D.any, D.any, D.any, D.any, D.any, D.any, D.any, D.any, D.any, D.any, D.any, D.any, D.any, D.any, D.any, D.any, D.any, D.any, D.any, (D.shut (List.length Av4) (List.getD (e).t 39 D.any)), (D.shut (List.length Av4) (List.getD (e).t 40 D.any)), (D.shut (List.length Av4) x10), D.any, D.any, D.any, D.any, D.any, D.any, D.any, D.any, D.any, D.any, D.any, D.any, D.any, D.any, D.any, D.any, D.any, D.any, D.any, D.any, D.any, D.any, D.any, D.any, D.any, D.any, D.any, D.any, D.any, D.any, D.any, D.any] (List.map (fun (x11 : (D × (List D))) => ((D.shut (List.length Av4) x11.1), (D.shutL (List.length Av4) x11.2))) (e).df)), (List.take (List.length Av4) (x7).snd)))))))))))))))
 (Option.map (Sum.inr ) (bn (fieldAddrO 2 (List.getD (e).t 1 D.any)) fun (x2 : D) =>
 (bn (Option.map (fun (x3 : D) => (x3, Av4)) (loadO Bool.false 1 x2 Av4)) fun (x3 : (D × St)) =>
 (bn (lenSlO (x3).fst) fun (x4 : D) =>
 (bn (binO BinOp.mul 3 Bool.true (D.int IntKind.i64 (10 : Int)) x4) fun (x5 : D) =>
 (bn (binO BinOp.add 3 Bool.true (D.int IntKind.i64 (11 : Int)) x5) fun (x6 : D) =>
 (bn (fieldAddrO 3 (List.getD (e).t 1 D.any)) fun (x7 : D) =>
 (bn (Option.map (fun (x8 : D) => (x8, (x3).snd)) (loadO Bool.false 1 x7 (x3).snd)) fun (x8 : (D × St)) =>
 (bn (lenSlO (x8).fst) fun (x9 : D) =>
 (iterK (f20_s0 call dcall A) (Env.mk [D.any, D.any, D.any, D.any, D.any, D.any, x6, D.any, D.any, D.any, D.any, D.any, D.any, D.any, D.any, D.any, D.any, D.any, D.any, D.any, D.any, D.any, D.any, D.any, D.any, D.any, D.any, D.any, D.any, D.any, D.any, D.any, D.any, D.any, D.any, D.any, D.any, D.any, D.any, D.any, D.any, D.any, D.any, D.any, D.any, D.any, D.any, D.any, D.any, D.any, D.any, D.any, D.any, D.any, D.any, (x8).fst, x9, (D.int IntKind.i64 (0 : Int)), D.any, D.any, D.any, D.any, D.any, D.any, D.any, D.any, D.any, D.any, D.any, D.any, D.any, D.any, D.any, D.any] (e).df) (x8).snd)))))))))))))
noncomputable def f20 (call : (FuncId → ((List D) → (St → ORes)))) (dcall : (D → ((List D) → ((Option D) → (St → (Option ((Option D) × St))))))) (a0 : D) (A : St) : (Option (Res × St)) :=
  (bn (boxO Bool.true a0 A) fun (x0 : (D × St)) =>
 (bn (fieldAddrO 0 (x0).fst) fun (x1 : D) =>
 (bn (Option.map (fun (x2 : D) => (x2, (x0).snd)) (loadO Bool.false 1 x1 (x0).snd)) fun (x2 : (D × St)) =>
 (bn (binO BinOp.lss 3 Bool.true (x2).fst (D.int IntKind.i64 (0 : Int))) fun (x3 : D) =>
 (bn (guardB Bool.false x3) fun (x4 : Bool) =>
 (bn (ifb x4 (fieldAddrO 0 (x0).fst)
 (Option.some (D.tup []))) fun (x5 : D) =>
 (bn (guardB Bool.false x3) fun (x6 : Bool) =>
 (bn (ifb x6 (Option.map (fun (x7 : D) => (x7, (x2).snd)) (loadO Bool.false 1 x5 (x2).snd))
 (Option.some ((D.tup []), (x2).snd))) fun (x7 : (D × St)) =>
 (bn (guardB Bool.false x3) fun (x8 : Bool) =>
 (bn (ifb x8 (binO BinOp.geq 3 Bool.true (x7).fst (D.int IntKind.i64 (64 : Int)))
 (Option.some (D.tup []))) fun (x9 : D) =>
 (bn (Option.map (fun (x10 : Bool) => (ifb x10 (D.bool Bool.true)
 x9)) (D.bool? x3)) fun (x10 : D) =>
 (bn (guardB Bool.false x10) fun (x11 : Bool) =>
 (bn (ifb x11 (fieldAddrO 1 (x0).fst)
 (Option.some (D.tup []))) fun (x12 : D) =>
 (bn (guardB Bool.false x10) fun (x13 : Bool) =>
 (bn (ifb x13 (Option.map (fun (x14 : D) => (x14, (x7).snd)) (loadO Bool.false 1 x12 (x7).snd))
 (Option.some ((D.tup []), (x7).snd))) fun (x14 : (D × St)) =>
 (bn (guardB Bool.false x10) fun (x15 : Bool) =>
 (bn (ifb x15 (binO BinOp.lss 3 Bool.true (x14).fst (D.int IntKind.i64 (0 : Int)))
 (Option.some (D.tup []))) fun (x16 : D) =>
 (bn (Option.map (fun (x17 : Bool) => (ifb x17 (D.bool Bool.true)
 x16)) (D.bool? x10)) fun (x17 : D) =>
 (bn (guardB Bool.false x17) fun (x18 : Bool) =>
 (bn (ifb x18 (fieldAddrO 1 (x0).fst)
 (Option.some (D.tup []))) fun (x19 : D) =>
 (bn (guardB Bool.false x17) fun (x20 : Bool) =>
 (bn (ifb x20 (Option.map (fun (x21 : D) => (x21, (x14).snd)) (loadO Bool.false 1 x19 (x14).snd))
 (Option.some ((D.tup []), (x14).snd))) fun (x21 : (D × St)) =>
 (bn (guardB Bool.false x17) fun (x22 : Bool) =>
 (bn (ifb x22 (binO BinOp.geq 3 Bool.true (x21).fst (D.int IntKind.i64 (16384 : Int)))
 (Option.some (D.tup []))) fun (x23 : D) =>
 (bn (Option.map (fun (x24 : Bool) => (ifb x24 (D.bool Bool.true)
 x23)) (D.bool? x17)) fun (x24 : D) =>
 (bn (D.bool? x24) fun (x25 : Bool) =>
 (ifb x25 (leaveD RetK.trunc A (Res.ret (D.int IntKind.i64 (1 : Int))) (x21).snd)
 (bn (fieldAddrO 2 (x0).fst) fun (x26 : D) =>
 (bn (Option.map (fun (x27 : D) => (x27, (x21).snd)) (loadO Bool.false 1 x26 (x21).snd)) fun (x27 : (D × St)) =>
 (bn (Option.map (fun (x28 : D) => (x28, (x27).snd)) (Option.map (D.sl Own.full 1) (sliceParts 1 Bool.false 0 [(0, (x27).fst)]))) fun (x28 : (D × St)) =>
 (bn (call 39 [(x28).fst] (x28).snd) fun (x29 : (Res × St)) =>
 (Res.elim (x29).fst (fun (x30 : D) => (bn (binO BinOp.neq 3 Bool.true x30 (D.int IntKind.i64 (0 : Int))) fun (x31 : D) =>
 (bn (D.bool? x31) fun (x32 : Bool) =>
 (ifb x32 (leaveD RetK.trunc A (Res.ret x30) (x29).snd)
 (bn (fieldAddrO 3 (x0).fst) fun (x33 : D) =>
 (bn (Option.map (fun (x34 : D) => (x34, (x29).snd)) (loadO Bool.false 1 x33 (x29).snd)) fun (x34 : (D × St)) =>
 (bn (lenSlO (x34).fst) fun (x35 : D) =>
 (bn (binO BinOp.gtr 3 Bool.true x35 (D.int IntKind.i64 (256 : Int))) fun (x36 : D) =>
 (bn (D.bool? x36) fun (x37 : Bool) =>
 (ifb x37 (leaveD RetK.trunc A (Res.ret (D.int IntKind.i64 (3 : Int))) (x34).snd)
 (bn (fieldAddrO 3 (x0).fst) fun (x38 : D) =>
 (bn (Option.map (fun (x39 : D) => (x39, (x34).snd)) (loadO Bool.false 1 x38 (x34).snd)) fun (x39 : (D × St)) =>
 (bn (lenSlO (x39).fst) fun (x40 : D) =>
 (iterK (f20_s1 call dcall A) (Env.mk [D.any, (x0).fst, D.any, D.any, D.any, D.any, D.any, D.any, D.any, D.any, D.any, D.any, D.any, D.any, D.any, D.any, D.any, D.any, D.any, D.any, D.any, D.any, D.any, D.any, D.any, D.any, D.any, D.any, D.any, D.any, D.any, D.any, D.any, D.any, D.any, D.any, D.any, D.any, D.any, (x39).fst, x40, (D.int IntKind.i64 (0 : Int)), D.any, D.any, D.any, D.any, D.any, D.any, D.any, D.any, D.any, D.any, D.any, D.any, D.any, D.any, D.any, D.any, D.any, D.any, D.any, D.any, D.any, D.any, D.any, D.any, D.any, D.any, D.any, D.any, D.any, D.any, D.any, D.any] []) (x39).snd)))))))))))))) (fun (x30 : D) => (leaveD RetK.trunc A (Res.pan x30) (x29).snd))))))))))))))))))))))))))))))))))
theorem r20 (a0 : D) (A : St) : Run Try.prog codecH 20 [a0] A = f20 (Run Try.prog codecH) (Dcall Try.prog codecH) a0 A := by
  rw [Run_eqK (J := k20)]
  kernel_rfl
noncomputable def f21_s0 (call : (FuncId → ((List D) → (St → ORes)))) (dcall : (D → ((List D) → ((Option D) → (St → (Option ((Option D) × St))))))) (A : St) (e : Env) (Av4 : St) : (Option ((Env × St) ⊕ (Res × St))) :=
  (bn (fieldAddrO 3 (List.getD (e).t 1 D.any)) fun (x0 : D) =>
 (bn (Option.map (fun (x1 : D) => (x1, Av4)) (loadO Bool.false 1 x0 Av4)) fun (x1 : (D × St)) =>
 (bn (lenSlO (x1).fst) fun (x2 : D) =>
 (bn (binO BinOp.lss 3 Bool.false (List.getD (e).t 5 D.any) x2) fun (x3 : D) =>
 (bn (D.bool? x3) fun (x4 : Bool) =>
 (ifb x4 (bn (fieldAddrO 3 (List.getD (e).t 1 D.any)) fun (x5 : D) =>
 (bn (Option.map (fun (x6 : D) => (x6, (x1).snd)) (loadO Bool.false 1 x5 (x1).snd)) fun (x6 : (D × St)) =>
 (bn (indexAddrO 2 Bool.true (x6).fst (List.getD (e).t 5 D.any)) fun (x7 : D) =>
 (bn (fieldAddrO 1 x7) fun (x8 : D) =>
 (bn (Option.map (fun (x9 : D) => (x9, (x6).snd)) (loadO Bool.false 1 x8 (x6).snd)) fun (x9 : (D × St)) =>
 (bn (lenSlO (x9).fst) fun (x10 : D) =>
 (bn (binO BinOp.eql 3 Bool.true x10 (D.int IntKind.i64 (0 : Int))) fun (x11 : D) =>
 (bn (D.bool? x11) fun (x12 : Bool) =>
 (ifb x12 (Option.map (Sum.inr ) (bn (leavesD dcall (fun (x13 : St) => (Option.some (D.int IntKind.i64 (40 : Int)))) (e).df none (x9).snd) fun (x13 : (Res × St)) =>
 (leaveD RetK.trunc A (x13).fst (x13).snd)))
 (bn (binO BinOp.add 3 Bool.true (List.getD (e).t 5 D.any) (D.int IntKind.i64 (1 : Int))) fun (x13 : D) =>
 (guardP (Kept Av4 (x9).snd) (Option.some (Sum.inl ((Env.mk [D.any, (D.shut (List.length Av4) (List.getD (e).t 1 D.any)), D.any, D.any, D.any, (D.shut (List.length Av4) x13), D.any, D.any, D.any, D.any, D.any, D.any, D.any, D.any, D.any, D.any, D.any, D.any, D.any, D.any, D.any, D.any, D.any, D.any, D.any, D.any, D.any, D.any, D.any, D.any, D.any, D.any, D.any, D.any, D.any, D.any, D.any, D.any, D.any, D.any, D.any, D.any, D.any, D.any, D.any, D.any, D.any, D.any, D.any, D.any, D.any, D.any, D.any, D.any, D.any, D.any, D.any, D.any, D.any, D.any, D.any, D.any, D.any, D.any, D.any, D.any, D.any] (List.map (fun (x14 : (D × (List D))) => ((D.shut (List.length Av4) x14.1), (D.shutL (List.length Av4) x14.2))) (e).df)), (List.take (List.length Av4) (x9).snd)))))))))))))))
 (Option.map (Sum.inr ) (bn (Option.map (fun (x5 : D) => (x5, (x1).snd)) (loadO Bool.true 4 (List.getD (e).t 1 D.any) (x1).snd)) fun (x5 : (D × St)) =>
 (bn (call 41 [(x5).fst] (x5).snd) fun (x6 : (Res × St)) =>
 (Res.elim (x6).fst (fun (x7 : D) => (bn (binO BinOp.gtr 3 Bool.true x7 (D.int IntKind.i64 (1048576 : Int))) fun (x8 : D) =>
 (bn (D.bool? x8) fun (x9 : Bool) =>
 (ifb x9 (bn (leavesD dcall (fun (x10 : St) => (Option.some (D.int IntKind.i64 (2 : Int)))) (e).df none (x6).snd) fun (x10 : (Res × St)) =>
 (leaveD RetK.trunc A (x10).fst (x10).snd))
 (bn (leavesD dcall (fun (x10 : St) => (Option.some (D.int IntKind.i64 (0 : Int)))) (e).df none (x6).snd) fun (x10 : (Res × St)) =>
 (leaveD RetK.trunc A (x10).fst (x10).snd)))))) (fun (x7 : D) => (bn (leavesD dcall (fun (x8 : St) => (Option.some (List.getD (e).t 2 D.any))) (e).df (Option.some x7) (x6).snd) fun (x8 : (Res × St)) =>
 (leaveD RetK.trunc A (x8).fst (x8).snd)))))))))))))
noncomputable def f21_s1 (call : (FuncId → ((List D) → (St → ORes)))) (dcall : (D → ((List D) → ((Option D) → (St → (Option ((Option D) × St))))))) (A : St) (e : Env) (Av4 : St) : (Option ((Env × St) ⊕ (Res × St))) :=
  (bn (fieldAddrO 3 (List.getD (e).t 1 D.any)) fun (x0 : D) =>
 (bn (Option.map (fun (x1 : D) => (x1, Av4)) (loadO Bool.false 1 x0 Av4)) fun (x1 : (D × St)) =>
 (bn (lenSlO (x1).fst) fun (x2 : D) =>
 (bn (binO BinOp.lss 3 Bool.false (List.getD (e).t 4 D.any) x2) fun (x3 : D) =>
 (bn (D.bool? x3) fun (x4 : Bool) =>
 (ifb x4 (bn (fieldAddrO 3 (List.getD (e).t 1 D.any)) fun (x5 : D) =>
 (bn (Option.map (fun (x6 : D) => (x6, (x1).snd)) (loadO Bool.false 1 x5 (x1).snd)) fun (x6 : (D × St)) =>
 (bn (indexAddrO 2 Bool.true (x6).fst (List.getD (e).t 4 D.any)) fun (x7 : D) =>
 (bn (fieldAddrO 0 x7) fun (x8 : D) =>
 (bn (Option.map (fun (x9 : D) => (x9, (x6).snd)) (loadO Bool.false 1 x8 (x6).snd)) fun (x9 : (D × St)) =>
 (bn (binO BinOp.eql 3 Bool.true (x9).fst (D.int IntKind.u64 (0 : Int))) fun (x10 : D) =>
 (bn (D.bool? x10) fun (x11 : Bool) =>
 (ifb x11 (Option.map (Sum.inr ) (bn (leavesD dcall (fun (x12 : St) => (Option.some (D.int IntKind.i64 (80 : Int)))) (e).df none (x9).snd) fun (x12 : (Res × St)) =>
 (leaveD RetK.trunc A (x12).fst (x12).snd)))
 (bn (binO BinOp.add 3 Bool.true (List.getD (e).t 4 D.any) (D.int IntKind.i64 (1 : Int))) fun (x12 : D) =>
 (guardP (Kept Av4 (x9).snd) (Option.some (Sum.inl ((Env.mk [D.any, (D.shut (List.length Av4) (List.getD (e).t 1 D.any)), D.any, D.any, (D.shut (List.length Av4) x12), D.any, D.any, D.any, D.any, D.any, D.any, D.any, D.any, D.any, D.any, D.any, D.any, D.any, D.any, D.any, D.any, D.any, D.any, D.any, D.any, D.any, D.any, D.any, D.any, D.any, D.any, D.any, D.any, D.any, D.any, D.any, D.any, D.any, D.any, D.any, D.any, D.any, D.any, D.any, D.any, D.any, D.any, D.any, D.any, D.any, D.any, D.any, D.any, D.any, D.any, D.any, D.any, D.any, D.any, D.any, D.any, D.any, D.any, D.any, D.any, D.any, D.any] (List.map (fun (x13 : (D × (List D))) => ((D.shut (List.length Av4) x13.1), (D.shutL (List.length Av4) x13.2))) (e).df)), (List.take (List.length Av4) (x9).snd))))))))))))))
 (Option.map (Sum.inr ) (iterK (f21_s0 call dcall A) (Env.mk [D.any, (List.getD (e).t 1 D.any), D.any, D.any, D.any, (D.int IntKind.i64 (0 : Int)), D.any, D.any, D.any, D.any, D.any, D.any, D.any, D.any, D.any, D.any, D.any, D.any, D.any, D.any, D.any, D.any, D.any, D.any, D.any, D.any, D.any, D.any, D.any, D.any, D.any, D.any, D.any, D.any, D.any, D.any, D.any, D.any, D.any, D.any, D.any, D.any, D.any, D.any, D.any, D.any, D.any, D.any, D.any, D.any, D.any, D.any, D.any, D.any, D.any, D.any, D.any, D.any, D.any, D.any, D.any, D.any, D.any, D.any, D.any, D.any, D.any] (e).df) (x1).snd))))))))
noncomputable def f21 (call : (FuncId → ((List D) → (St → ORes)))) (dcall : (D → ((List D) → ((Option D) → (St → (Option ((Option D) × St))))))) (a0 : D) (A : St) : (Option (Res × St)) :=
  (bn (boxO Bool.true a0 A) fun (x0 : (D × St)) =>
 (bn (fieldAddrO 0 (x0).fst) fun (x1 : D) =>
 (bn (Option.map (fun (x2 : D) => (x2, (x0).snd)) (loadO Bool.false 1 x1 (x0).snd)) fun (x2 : (D × St)) =>
 (bn (binO BinOp.lss 3 Bool.true (x2).fst (D.int IntKind.i64 (0 : Int))) fun (x3 : D) =>
 (bn (guardB Bool.false x3) fun (x4 : Bool) =>
 (bn (ifb x4 (fieldAddrO 0 (x0).fst)
 (Option.some (D.tup []))) fun (x5 : D) =>
 (bn (guardB Bool.false x3) fun (x6 : Bool) =>
 (bn (ifb x6 (Option.map (fun (x7 : D) => (x7, (x2).snd)) (loadO Bool.false 1 x5 (x2).snd))
 (Option.some ((D.tup []), (x2).snd))) fun (x7 : (D × St)) =>
 (bn (guardB Bool.false x3) fun (x8 : Bool) =>
 (bn (ifb x8 (binO BinOp.geq 3 Bool.true (x7).fst (D.int IntKind.i64 (64 : Int)))
 (Option.some (D.tup []))) fun (x9 : D) =>
 (bn (Option.map (fun (x10 : Bool) => (ifb x10 (D.bool Bool.true)
 x9)) (D.bool? x3)) fun (x10 : D) =>
 (bn (guardB Bool.false x10) fun (x11 : Bool) =>
 (bn (ifb x11 (fieldAddrO 1 (x0).fst)
 (Option.some (D.tup []))) fun (x12 : D) =>
 (bn (guardB Bool.false x10) fun (x13 : Bool) =>
 (bn (ifb x13 (Option.map (fun (x14 : D) => (x14, (x7).snd)) (loadO Bool.false 1 x12 (x7).snd))
 (Option.some ((D.tup []), (x7).snd))) fun (x14 : (D × St)) =>
 (bn (guardB Bool.false x10) fun (x15 : Bool) =>
 (bn (ifb x15 (binO BinOp.lss 3 Bool.true (x14).fst (D.int IntKind.i64 (0 : Int)))
 (Option.some (D.tup []))) fun (x16 : D) =>
 (bn (Option.map (fun (x17 : Bool) => (ifb x17 (D.bool Bool.true)
 x16)) (D.bool? x10)) fun (x17 : D) =>
 (bn (guardB Bool.false x17) fun (x18 : Bool) =>
 (bn (ifb x18 (fieldAddrO 1 (x0).fst)
 (Option.some (D.tup []))) fun (x19 : D) =>
 (bn (guardB Bool.false x17) fun (x20 : Bool) =>
 (bn (ifb x20 (Option.map (fun (x21 : D) => (x21, (x14).snd)) (loadO Bool.false 1 x19 (x14).snd))
 (Option.some ((D.tup []), (x14).snd))) fun (x21 : (D × St)) =>
 (bn (guardB Bool.false x17) fun (x22 : Bool) =>
 (bn (ifb x22 (binO BinOp.geq 3 Bool.true (x21).fst (D.int IntKind.i64 (16384 : Int)))
 (Option.some (D.tup []))) fun (x23 : D) =>
 (bn (Option.map (fun (x24 : Bool) => (ifb x24 (D.bool Bool.true)
 x23)) (D.bool? x17)) fun (x24 : D) =>
 (bn (D.bool? x24) fun (x25 : Bool) =>
 (ifb x25 (leaveD RetK.trunc A (Res.ret (D.int IntKind.i64 (1 : Int))) (x21).snd)
 (bn (fieldAddrO 2 (x0).fst) fun (x26 : D) =>
 (bn (Option.map (fun (x27 : D) => (x27, (x21).snd)) (loadO Bool.false 1 x26 (x21).snd)) fun (x27 : (D × St)) =>
 (bn (Option.map (fun (x28 : D) => (x28, (x27).snd)) (Option.map (D.sl Own.full 1) (sliceParts 1 Bool.false 0 [(0, (x27).fst)]))) fun (x28 : (D × St)) =>
 (bn (call 40 [(x28).fst] (x28).snd) fun (x29 : (Res × St)) =>
 (Res.elim (x29).fst (fun (x30 : D) => (bn (binO BinOp.neq 3 Bool.true x30 (D.int IntKind.i64 (0 : Int))) fun (x31 : D) =>
 (bn (D.bool? x31) fun (x32 : Bool) =>
 (ifb x32 (leaveD RetK.trunc A (Res.ret x30) (x29).snd)
 (bn (fieldAddrO 3 (x0).fst) fun (x33 : D) =>
 (bn (Option.map (fun (x34 : D) => (x34, (x29).snd)) (loadO Bool.false 1 x33 (x29).snd)) fun (x34 : (D × St)) =>
 (bn (lenSlO (x34).fst) fun (x35 : D) =>
 (bn (binO BinOp.gtr 3 Bool.true x35 (D.int IntKind.i64 (256 : Int))) fun (x36 : D) =>
 (bn (D.bool? x36) fun (x37 : Bool) =>
 (ifb x37 (leaveD RetK.trunc A (Res.ret (D.int IntKind.i64 (3 : Int))) (x34).snd)
 (iterK (f21_s1 call dcall A) (Env.mk [D.any, (x0).fst, D.any, D.any, (D.int IntKind.i64 (0 : Int)), D.any, D.any, D.any, D.any, D.any, D.any, D.any, D.any, D.any, D.any, D.any, D.any, D.any, D.any, D.any, D.any, D.any, D.any, D.any, D.any, D.any, D.any, D.any, D.any, D.any, D.any, D.any, D.any, D.any, D.any, D.any, D.any, D.any, D.any, D.any, D.any, D.any, D.any, D.any, D.any, D.any, D.any, D.any, D.any, D.any, D.any, D.any, D.any, D.any, D.any, D.any, D.any, D.any, D.any, D.any, D.any, D.any, D.any, D.any, D.any, D.any, D.any] []) (x34).snd))))))))))) (fun (x30 : D) => (leaveD RetK.trunc A (Res.pan x30) (x29).snd))))))))))))))))))))))))))))))))))
theorem r21 (a0 : D) (A : St) : Run Try.prog codecH 21 [a0] A = f21 (Run Try.prog codecH) (Dcall Try.prog codecH) a0 A := by
  rw [Run_eqK (J := k21)]
  kernel_rfl
noncomputable def f22 (call : (FuncId → ((List D) → (St → ORes)))) (dcall : (D → ((List D) → ((Option D) → (St → (Option ((Option D) × St))))))) (a0 : D) (a1 : D) (A : St) : (Option (Res × St)) :=
  (bn (boxO Bool.true a0 A) fun (x0 : (D × St)) =>
 (bn (boxO Bool.true a1 (x0).snd) fun (x1 : (D × St)) =>
 (bn (fieldAddrO 0 (x0).fst) fun (x2 : D) =>
 (bn (Option.map (fun (x3 : D) => (x3, (x1).snd)) (loadO Bool.false 1 x2 (x1).snd)) fun (x3 : (D × St)) =>
 (bn (fieldAddrO 0 (x1).fst) fun (x4 : D) =>
 (bn (Option.map (fun (x5 : D) => (x5, (x3).snd)) (loadO Bool.false 1 x4 (x3).snd)) fun (x5 : (D × St)) =>
 (bn (binO BinOp.eql 3 Bool.false (x3).fst (x5).fst) fun (x6 : D) =>
 (bn (guardB Bool.true x6) fun (x7 : Bool) =>
 (bn (ifb x7 (fieldAddrO 1 (x0).fst)
 (Option.some (D.tup []))) fun (x8 : D) =>
 (bn (guardB Bool.true x6) fun (x9 : Bool) =>
 (bn (ifb x9 (Option.map (fun (x10 : D) => (x10, (x5).snd)) (loadO Bool.false 1 x8 (x5).snd))
 (Option.some ((D.tup []), (x5).snd))) fun (x10 : (D × St)) =>
 (bn (guardB Bool.true x6) fun (x11 : Bool) =>
 (bn (ifb x11 (fieldAddrO 1 (x1).fst)
 (Option.some (D.tup []))) fun (x12 : D) =>
 (bn (guardB Bool.true x6) fun (x13 : Bool) =>
 (bn (ifb x13 (Option.map (fun (x14 : D) => (x14, (x10).snd)) (loadO Bool.false 1 x12 (x10).snd))
 (Option.some ((D.tup []), (x10).snd))) fun (x14 : (D × St)) =>
 (bn (guardB Bool.true x6) fun (x15 : Bool) =>
 (bn (ifb x15 (binO BinOp.eql 3 Bool.false (x10).fst (x14).fst)
 (Option.some (D.tup []))) fun (x16 : D) =>
 (bn (Option.map (fun (x17 : Bool) => (ifb x17 x16
 (D.bool Bool.false))) (D.bool? x6)) fun (x17 : D) =>
 (bn (guardB Bool.true x17) fun (x18 : Bool) =>
 (bn (ifb x18 (fieldAddrO 2 (x0).fst)
 (Option.some (D.tup []))) fun (x19 : D) =>
 (bn (guardB Bool.true x17) fun (x20 : Bool) =>
 (bn (ifb x20 (Option.map (fun (x21 : D) => (x21, (x14).snd)) (loadO Bool.false 1 x19 (x14).snd))
 (Option.some ((D.tup []), (x14).snd))) fun (x21 : (D × St)) =>
 (bn (guardB Bool.true x17) fun (x22 : Bool) =>
 (bn (ifb x22 (fieldAddrO 2 (x1).fst)
 (Option.some (D.tup []))) fun (x23 : D) =>
 (bn (guardB Bool.true x17) fun (x24 : Bool) =>
 (bn (ifb x24 (Option.map (fun (x25 : D) => (x25, (x21).snd)) (loadO Bool.false 1 x23 (x21).snd))
 (Option.some ((D.tup []), (x21).snd))) fun (x25 : (D × St)) =>
 (bn (guardB Bool.true x17) fun (x26 : Bool) =>
 (bn (ifb x26 (call 42 [(x21).fst, (x25).fst] (x25).snd)
 (Option.some ((Res.ret (D.tup [])), (x25).snd))) fun (x27 : (Res × St)) =>
 (Res.elim (x27).fst (fun (x28 : D) => (bn (Option.map (fun (x29 : Bool) => (ifb x29 x28
 (D.bool Bool.false))) (D.bool? x17)) fun (x29 : D) =>
 (bn (guardB Bool.true x29) fun (x30 : Bool) =>
 (bn (ifb x30 (fieldAddrO 3 (x0).fst)
 (Option.some (D.tup []))) fun (x31 : D) =>
 (bn (guardB Bool.true x29) fun (x32 : Bool) =>
 (bn (ifb x32 (Option.map (fun (x33 : D) => (x33, (x27).snd)) (loadO Bool.false 1 x31 (x27).snd))
 (Option.some ((D.tup []), (x27).snd))) fun (x33 : (D × St)) =>
 (bn (guardB Bool.true x29) fun (x34 : Bool) =>
 (bn (ifb x34 (fieldAddrO 3 (x1).fst)
 (Option.some (D.tup []))) fun (x35 : D) =>
 (bn (guardB Bool.true x29) fun (x36 : Bool) =>
 (bn (ifb x36 (Option.map (fun (x37 : D) => (x37, (x33).snd)) (loadO Bool.false 1 x35 (x33).snd))
 (Option.some ((D.tup []), (x33).snd))) fun (x37 : (D × St)) =>
 (bn (guardB Bool.true x29) fun (x38 : Bool) =>
 (bn (ifb x38 (call 43 [(x33).fst, (x37).fst, (D.fn (Fn.func 44) [] [])] (x37).snd)
 (Option.some ((Res.ret (D.tup [])), (x37).snd))) fun (x39 : (Res × St)) =>
 (Res.elim (x39).fst (fun (x40 : D) => (bn (Option.map (fun (x41 : Bool) => (ifb x41 x40
 (D.bool Bool.false))) (D.bool? x29)) fun (x41 : D) =>
 (leaveD RetK.trunc A (Res.ret x41) (x39).snd))) (fun (x40 : D) => (leaveD RetK.trunc A (Res.pan x40) (x39).snd))))))))))))))) (fun (x28 : D) => (leaveD RetK.trunc A (Res.pan x28) (x27).snd)))))))))))))))))))))))))))))))
theorem r22 (a0 a1 : D) (A : St) : Run Try.prog codecH 22 [a0, a1] A = f22 (Run Try.prog codecH) (Dcall Try.prog codecH) a0 a1 A := by
  rw [Run_eqK (J := k22)]
  kernel_rfl
noncomputable def f39_s0 (call : (FuncId → ((List D) → (St → ORes)))) (dcall : (D → ((List D) → ((Option D) → (St → (Option ((Option D) × St))))))) (A : St) (e : Env) (Av4 : St) : (Option ((Env × St) ⊕ (Res × St))) :=
  (bn (binO BinOp.lss 3 Bool.false (List.getD (e).t 7 D.any) (List.getD (e).t 6 D.any)) fun (x0 : D) =>
 (bn (D.bool? x0) fun (x1 : Bool) =>
 (ifb x1 (bn (indexAddrO 1 Bool.false (List.getD (e).t 5 D.any) (List.getD (e).t 7 D.any)) fun (x2 : D) =>
 (bn (Option.map (fun (x3 : D) => (x3, Av4)) (loadO Bool.false 1 x2 Av4)) fun (x3 : (D × St)) =>
 (bn (call 46 [(x3).fst, (D.fn (Fn.func 47) [] [])] (x3).snd) fun (x4 : (Res × St)) =>
 (Res.elim (x4).fst (fun (x5 : D) => (bn (unD UnOp.not x5) fun (x6 : D) =>
 (bn (guardB Bool.false x6) fun (x7 : Bool) =>
 (bn (ifb x7 (Option.some (x3).fst)
 (Option.some (D.tup []))) fun (x8 : D) =>
 (bn (guardB Bool.false x6) fun (x9 : Bool) =>
 (bn (ifb x9 (call 48 [x8, (D.fn (Fn.func 49) [] [])] (x4).snd)
 (Option.some ((Res.ret (D.tup [])), (x4).snd))) fun (x10 : (Res × St)) =>
 (Res.elim (x10).fst (fun (x11 : D) => (bn (Option.map (fun (x12 : Bool) => (ifb x12 (D.bool Bool.true)
 x11)) (D.bool? x6)) fun (x12 : D) =>
 (bn (D.bool? x12) fun (x13 : Bool) =>
 (ifb x13 (Option.map (Sum.inr ) (bn (leavesD dcall (fun (x14 : St) => (Option.some (D.int IntKind.i64 (160 : Int)))) (e).df none (x10).snd) fun (x14 : (Res × St)) =>
 (leaveD RetK.trunc A (x14).fst (x14).snd)))
 (bn (binO BinOp.add 3 Bool.true (List.getD (e).t 7 D.any) (D.int IntKind.i64 (1 : Int))) fun (x14 : D) =>
 (guardP (Kept Av4 (x10).snd) (Option.some (Sum.inl ((Env.mk [D.any, D.any, D.any, D.any, D.any, (D.shut (List.length Av4) (List.getD (e).t 5 D.any)), (D.shut (List.length Av4) (List.getD (e).t 6 D.any)), (D.shut (List.length Av4) x14), D.any, D.any, D.any, D.any, D.any, D.any, D.any, D.any, D.any, D.any, D.any] (List.map (fun (x15 : (D × (List D))) => ((D.shut (List.length Av4) x15.1), (D.shutL (List.length Av4) x15.2))) (e).df)), (List.take (List.length Av4) (x10).snd)))))))))) (fun (x11 : D) => (Option.map (Sum.inr ) (bn (leavesD dcall (fun (x12 : St) => (Option.some (List.getD (e).t 2 D.any))) (e).df (Option.some x11) (x10).snd) fun (x12 : (Res × St)) =>
 (leaveD RetK.trunc A (x12).fst (x12).snd))))))))))) (fun (x5 : D) => (Option.map (Sum.inr ) (bn (leavesD dcall (fun (x6 : St) => (Option.some (List.getD (e).t 2 D.any))) (e).df (Option.some x5) (x4).snd) fun (x6 : (Res × St)) =>
 (leaveD RetK.trunc A (x6).fst (x6).snd))))))))
 (Option.map (Sum.inr ) (bn (leavesD dcall (fun (x2 : St) => (Option.some (D.int IntKind.i64 (0 : Int)))) (e).df none Av4) fun (x2 : (Res × St)) =>
 (leaveD RetK.trunc A (x2).fst (x2).snd))))))
noncomputable def f39 (call : (FuncId → ((List D) → (St → ORes)))) (dcall : (D → ((List D) → ((Option D) → (St → (Option ((Option D) × St))))))) (a0 : D) (A : St) : (Option (Res × St)) :=
  (bn (lenSlO a0) fun (x0 : D) =>
 (iterK (f39_s0 call dcall A) (Env.mk [D.any, D.any, D.any, D.any, D.any, a0, x0, (D.int IntKind.i64 (0 : Int)), D.any, D.any, D.any, D.any, D.any, D.any, D.any, D.any, D.any, D.any, D.any] []) A))
theorem r39 (a0 : D) (A : St) : Run Try.prog codecH 39 [a0] A = f39 (Run Try.prog codecH) (Dcall Try.prog codecH) a0 A := by
  rw [Run_eqK (J := k39)]
  kernel_rfl
noncomputable def f40_s0 (call : (FuncId → ((List D) → (St → ORes)))) (dcall : (D → ((List D) → ((Option D) → (St → (Option ((Option D) × St))))))) (A : St) (Av3 : St) (e : Env) (Av5 : St) : (Option ((Env × St) ⊕ ((Env × St) ⊕ (Res × St)))) :=
  (bn (indexAddrO 1 Bool.false (List.getD (e).t 0 D.any) (List.getD (e).t 3 D.any)) fun (x0 : D) =>
 (bn (Option.map (fun (x1 : D) => (x1, Av5)) (loadO Bool.false 1 x0 Av5)) fun (x1 : (D × St)) =>
 (bn (lenSlO (x1).fst) fun (x2 : D) =>
 (bn (binO BinOp.lss 3 Bool.false (List.getD (e).t 4 D.any) x2) fun (x3 : D) =>
 (bn (D.bool? x3) fun (x4 : Bool) =>
 (ifb x4 (bn (indexAddrO 1 Bool.false (List.getD (e).t 0 D.any) (List.getD (e).t 3 D.any)) fun (x5 : D) =>
 (bn (Option.map (fun (x6 : (D × St)) => (x6).fst) (Option.map (fun (x6 : D) => (x6, (x1).snd)) (loadO Bool.false 1 x5 (x1).snd))) fun (x6 : D) =>
 (bn (indexAddrO 2 Bool.true x6 (List.getD (e).t 4 D.any)) fun (x7 : D) =>
 (bn (fieldAddrO 0 x7) fun (x8 : D) =>
 (bn (Option.map (fun (x9 : (D × St)) => (x9).fst) (Option.map (fun (x9 : D) => (x9, (x1).snd)) (loadO Bool.false 1 x8 (x1).snd))) fun (x9 : D) =>
 (bn (call 51 [x9] (x1).snd) fun (x10 : (Res × St)) =>
 (Res.elim (x10).fst (fun (x11 : D) => (bn (unD UnOp.not x11) fun (x12 : D) =>
 (bn (guardB Bool.false x12) fun (x13 : Bool) =>
 (bn (ifb x13 (Option.some (List.getD (e).t 4 D.any))
 (Option.some (D.tup []))) fun (x14 : D) =>
 (bn (guardB Bool.false x12) fun (x15 : Bool) =>
 (bn (ifb x15 (binO BinOp.gtr 3 Bool.true x14 (D.int IntKind.i64 (0 : Int)))
 (Option.some (D.tup []))) fun (x16 : D) =>
 (bn (guardB Bool.false x12) fun (x17 : Bool) =>
 (bn (ifb x17 (Option.some x16)
 (Option.some (D.tup []))) fun (x18 : D) =>
 (bn (guardB Bool.true x18) fun (x19 : Bool) =>
 (bn (ifb x19 (Option.some (List.getD (e).t 0 D.any))
 (Option.some (D.tup []))) fun (x20 : D) =>
 (bn (guardB Bool.true x18) fun (x21 : Bool) =>
 (bn (ifb x21 (Option.some (List.getD (e).t 3 D.any))
 (Option.some (D.tup []))) fun (x22 : D) =>
 (bn (guardB Bool.true x18) fun (x23 : Bool) =>
 (bn (ifb x23 (indexAddrO 1 Bool.false x20 x22)
 (Option.some (D.tup []))) fun (x24 : D) =>
 (bn (guardB Bool.true x18) fun (x25 : Bool) =>
 (bn (ifb x25 (Option.map (fun (x26 : (D × St)) => (x26).fst) (Option.map (fun (x26 : D) => (x26, (x10).snd)) (loadO Bool.false 1 x24 (x10).snd)))
 (Option.some (D.tup []))) fun (x26 : D) =>
 (bn (guardB Bool.true x18) fun (x27 : Bool) =>
 (bn (ifb x27 (Option.some (List.getD (e).t 4 D.any))
 (Option.some (D.tup []))) fun (x28 : D) =>
 (bn (guardB Bool.true x18) fun (x29 : Bool) =>
 (bn (ifb x29 (binO BinOp.sub 3 Bool.true x28 (D.int IntKind.i64 (1 : Int)))
 (Option.some (D.tup []))) fun (x30 : D) =>
 (bn (guardB Bool.true x18) fun (x31 : Bool) =>
 (bn (ifb x31 (indexAddrO 2 Bool.true x26 x30)
 (Option.some (D.tup []))) fun (x32 : D) =>
 (bn (guardB Bool.true x18) fun (x33 : Bool) =>
 (bn (ifb x33 (fieldAddrO 0 x32)
 (Option.some (D.tup []))) fun (x34 : D) =>
 (bn (guardB Bool.true x18) fun (x35 : Bool) =>
 (bn (ifb x35 (Option.map (fun (x36 : (D × St)) => (x36).fst) (Option.map (fun (x36 : D) => (x36, (x10).snd)) (loadO Bool.false 1 x34 (x10).snd)))
 (Option.some (D.tup []))) fun (x36 : D) =>
 (bn (guardB Bool.true x18) fun (x37 : Bool) =>
 (bn (ifb x37 (Option.some (List.getD (e).t 0 D.any))
 (Option.some (D.tup []))) fun (x38 : D) =>
 (bn (guardB Bool.true x18) fun (x39 : Bool) =>
 (bn (ifb x39 (Option.some (List.getD (e).t 3 D.any))
 (Option.some (D.tup []))) fun (x40 : D) =>
 (bn (guardB Bool.true x18) fun (x41 : Bool) =>
 (bn (ifb x41 (indexAddrO 1 Bool.false x38 x40)
 (Option.some (D.tup []))) fun (x42 : D) =>
 (bn (guardB Bool.true x18) fun (x43 : Bool) =>
 (bn (ifb x43 (Option.map (fun (x44 : (D × St)) => (x44).fst) (Option.map (fun (x44 : D) => (x44, (x10).snd)) (loadO Bool.false 1 x42 (x10).snd)))
 (Option.some (D.tup []))) fun (x44 : D) =>
 (bn (guardB Bool.true x18) fun (x45 : Bool) =>
 (bn (ifb x45 (Option.some (List.getD (e).t 4 D.any))
 (Option.some (D.tup []))) fun (x46 : D) =>
 (bn (guardB Bool.true x18) fun (x47 : Bool) =>
 (bn (ifb x47 (indexAddrO 2 Bool.true x44 x46)
 (Option.some (D.tup []))) fun (x48 : D) =>
 (bn (guardB Bool.true x18) fun (x49 : Bool) =>
 (bn (ifb x49 (fieldAddrO 0 x48)
 (Option.some (D.tup []))) fun (x50 : D) =>
 (bn (guardB Bool.true x18) fun (x51 : Bool) =>
 (bn (ifb x51 (Option.map (fun (x52 : (D × St)) => (x52).fst) (Option.map (fun (x52 : D) => (x52, (x10).snd)) (loadO Bool.false 1 x50 (x10).snd)))
 (Option.some (D.tup []))) fun (x52 : D) =>
 (bn (guardB Bool.true x18) fun (x53 : Bool) =>
 (bn (ifb x53 (binO BinOp.geq 3 Bool.false x36 x52)
 (Option.some (D.tup []))) fun (x54 : D) =>
 (bn (guardB Bool.false x12) fun (x55 : Bool) =>
 (bn (ifb x55 (Option.map (fun (x56 : Bool) => (ifb x56 x54
 (D.bool Bool.false))) (D.bool? x18))
 (Option.some (D.tup []))) fun (x56 : D) =>
 (bn (Option.map (fun (x57 : Bool) => (ifb x57 (D.bool Bool.true)
 x56)) (D.bool? x12)) fun (x57 : D) =>
 (guardP True (bn (D.bool? x57) fun (x58 : Bool) =>
 (ifb x58 (Option.map (Sum.inr ) (Option.map (Sum.inr ) (bn (leavesD dcall (fun (x59 : St) => (Option.some (D.int IntKind.i64 (160 : Int)))) (e).df none (x10).snd) fun (x59 : (Res × St)) =>
 (leaveD RetK.trunc A (x59).fst (x59).snd))))
 (bn (binO BinOp.add 3 Bool.true (List.getD (e).t 4 D.any) (D.int IntKind.i64 (1 : Int))) fun (x59 : D) =>
 (guardP (Kept Av5 (x10).snd) (Option.some (Sum.inl ((Env.mk [(D.shut (List.length Av5) (List.getD (e).t 0 D.any)), D.any, D.any, (D.shut (List.length Av5) (List.getD (e).t 3 D.any)), (D.shut (List.length Av5) x59), D.any, D.any, D.any, D.any, D.any, D.any, D.any, D.any, D.any, D.any, D.any, D.any, D.any, D.any, D.any, D.any, D.any, D.any, D.any, D.any, D.any, D.any, D.any, D.any, D.any, D.any, D.any, D.any, D.any, D.any, D.any, D.any, D.any, D.any, D.any, D.any, D.any, D.any, D.any, D.any, D.any, D.any, D.any, D.any, D.any, D.any, D.any, D.any, D.any] (List.map (fun (x60 : (D × (List D))) => ((D.shut (List.length Av5) x60.1), (D.shutL (List.length Av5) x60.2))) (e).df)), (List.take (List.length Av5) (x10).snd)))))))))))))))))))))))))))))))))))))))))))))))))))))))) (fun (x11 : D) => (guardP True (Option.map (Sum.inr ) (Option.map (Sum.inr ) (bn (leavesD dcall (fun (x12 : St) => (Option.some (List.getD (e).t 2 D.any))) (e).df (Option.some x11) (x10).snd) fun (x12 : (Res × St)) =>
 (leaveD RetK.trunc A (x12).fst (x12).snd)))))))))))))
 (Option.map (Sum.inr ) (bn (binO BinOp.add 3 Bool.true (List.getD (e).t 3 D.any) (D.int IntKind.i64 (1 : Int))) fun (x5 : D) =>
 (guardP (Kept Av3 (x1).snd) (Option.some (Sum.inl ((Env.mk [(D.shut (List.length Av3) (List.getD (e).t 0 D.any)), D.any, D.any, (D.shut (List.length Av3) x5), D.any, D.any, D.any, D.any, D.any, D.any, D.any, D.any, D.any, D.any, D.any, D.any, D.any, D.any, D.any, D.any, D.any, D.any, D.any, D.any, D.any, D.any, D.any, D.any, D.any, D.any, D.any, D.any, D.any, D.any, D.any, D.any, D.any, D.any, D.any, D.any, D.any, D.any, D.any, D.any, D.any, D.any, D.any, D.any, D.any, D.any, D.any, D.any, D.any, D.any] (List.map (fun (x6 : (D × (List D))) => ((D.shut (List.length Av3) x6.1), (D.shutL (List.length Av3) x6.2))) (e).df)), (List.take (List.length Av3) (x1).snd)))))))))))))
noncomputable def f40_s1 (call : (FuncId → ((List D) → (St → ORes)))) (dcall : (D → ((List D) → ((Option D) → (St → (Option ((Option D) × St))))))) (A : St) (e : Env) (Av4 : St) : (Option ((Env × St) ⊕ (Res × St))) :=
  (bn (lenSlO (List.getD (e).t 0 D.any)) fun (x0 : D) =>
 (bn (binO BinOp.lss 3 Bool.false (List.getD (e).t 3 D.any) x0) fun (x1 : D) =>
 (bn (D.bool? x1) fun (x2 : Bool) =>
 (ifb x2 (iterK (f40_s0 call dcall A Av4) (Env.mk [(List.getD (e).t 0 D.any), D.any, D.any, (List.getD (e).t 3 D.any), (D.int IntKind.i64 (0 : Int)), D.any, D.any, D.any, D.any, D.any, D.any, D.any, D.any, D.any, D.any, D.any, D.any, D.any, D.any, D.any, D.any, D.any, D.any, D.any, D.any, D.any, D.any, D.any, D.any, D.any, D.any, D.any, D.any, D.any, D.any, D.any, D.any, D.any, D.any, D.any, D.any, D.any, D.any, D.any, D.any, D.any, D.any, D.any, D.any, D.any, D.any, D.any, D.any, D.any] (e).df) Av4)
 (Option.map (Sum.inr ) (bn (leavesD dcall (fun (x3 : St) => (Option.some (D.int IntKind.i64 (0 : Int)))) (e).df none Av4) fun (x3 : (Res × St)) =>
 (leaveD RetK.trunc A (x3).fst (x3).snd)))))))
noncomputable def f40 (call : (FuncId → ((List D) → (St → ORes)))) (dcall : (D → ((List D) → ((Option D) → (St → (Option ((Option D) × St))))))) (a0 : D) (A : St) : (Option (Res × St)) :=
  (iterK (f40_s1 call dcall A) (Env.mk [a0, D.any, D.any, (D.int IntKind.i64 (0 : Int)), D.any, D.any, D.any, D.any, D.any, D.any, D.any, D.any, D.any, D.any, D.any, D.any, D.any, D.any, D.any, D.any, D.any, D.any, D.any, D.any, D.any, D.any, D.any, D.any, D.any, D.any, D.any, D.any, D.any, D.any, D.any, D.any, D.any, D.any, D.any, D.any, D.any, D.any, D.any, D.any, D.any, D.any, D.any, D.any, D.any, D.any, D.any, D.any, D.any, D.any] []) A)
theorem r40 (a0 : D) (A : St) : Run Try.prog codecH 40 [a0] A = f40 (Run Try.prog codecH) (Dcall Try.prog codecH) a0 A := by
  rw [Run_eqK (J := k40)]
  kernel_rfl
noncomputable def f41_s0 (call : (FuncId → ((List D) → (St → ORes)))) (dcall : (D → ((List D) → ((Option D) → (St → (Option ((Option D) × St))))))) (A : St) (e : Env) (Av4 : St) : (Option ((Env × St) ⊕ (Res × St))) :=
  (bn (fieldAddrO 3 (List.getD (e).t 1 D.any)) fun (x0 : D) =>
 (bn (Option.map (fun (x1 : D) => (x1, Av4)) (loadO Bool.false 1 x0 Av4)) fun (x1 : (D × St)) =>
 (bn (lenSlO (x1).fst) fun (x2 : D) =>
 (bn (binO BinOp.lss 3 Bool.false (List.getD (e).t 4 D.any) x2) fun (x3 : D) =>
 (bn (D.bool? x3) fun (x4 : Bool) =>
 (ifb x4 (bn (binO BinOp.add 3 Bool.true (List.getD (e).t 3 D.any) (D.int IntKind.i64 (12 : Int))) fun (x5 : D) =>
 (bn (fieldAddrO 3 (List.getD (e).t 1 D.any)) fun (x6 : D) =>
 (bn (Option.map (fun (x7 : D) => (x7, (x1).snd)) (loadO Bool.false 1 x6 (x1).snd)) fun (x7 : (D × St)) =>
 (bn (indexAddrO 2 Bool.true (x7).fst (List.getD (e).t 4 D.any)) fun (x8 : D) =>
 (bn (fieldAddrO 1 x8) fun (x9 : D) =>
 (bn (Option.map (fun (x10 : D) => (x10, (x7).snd)) (loadO Bool.false 1 x9 (x7).snd)) fun (x10 : (D × St)) =>
 (bn (lenSlO (x10).fst) fun (x11 : D) =>
 (bn (binO BinOp.add 3 Bool.false x5 x11) fun (x12 : D) =>
 (bn (binO BinOp.add 3 Bool.true (List.getD (e).t 4 D.any) (D.int IntKind.i64 (1 : Int))) fun (x13 : D) =>
 (guardP (Kept Av4 (x10).snd) (Option.some (Sum.inl ((Env.mk [D.any, (D.shut (List.length Av4) (List.getD (e).t 1 D.any)), D.any, (D.shut (List.length Av4) x12), (D.shut (List.length Av4) x13), D.any, D.any, D.any, D.any, D.any, D.any, D.any, D.any, D.any, D.any, D.any, D.any, D.any, D.any, D.any, D.any, D.any, D.any, D.any, D.any, D.any, D.any, D.any] (List.map (fun (x14 : (D × (List D))) => ((D.shut (List.length Av4) x14.1), (D.shutL (List.length Av4) x14.2))) (e).df)), (List.take (List.length Av4) (x10).snd))))))))))))))
 (Option.map (Sum.inr ) (bn (leavesD dcall (fun (x5 : St) => (Option.some (List.getD (e).t 3 D.any))) (e).df none (x1).snd) fun (x5 : (Res × St)) =>
 (leaveD RetK.trunc A (x5).fst (x5).snd)))))))))
noncomputable def f41 (call : (FuncId → ((List D) → (St → ORes)))) (dcall : (D → ((List D) → ((Option D) → (St → (Option ((Option D) × St))))))) (a0 : D) (A : St) : (Option (Res × St)) :=
  (bn (boxO Bool.true a0 A) fun (x0 : (D × St)) =>
 (bn (fieldAddrO 2 (x0).fst) fun (x1 : D) =>
 (bn (Option.map (fun (x2 : D) => (x2, (x0).snd)) (loadO Bool.false 1 x1 (x0).snd)) fun (x2 : (D × St)) =>
 (bn (lenSlO (x2).fst) fun (x3 : D) =>
 (bn (binO BinOp.mul 3 Bool.true (D.int IntKind.i64 (10 : Int)) x3) fun (x4 : D) =>
 (bn (binO BinOp.add 3 Bool.true (D.int IntKind.i64 (11 : Int)) x4) fun (x5 : D) =>
 (iterK (f41_s0 call dcall A) (Env.mk [D.any, (x0).fst, D.any, x5, (D.int IntKind.i64 (0 : Int)), D.any, D.any, D.any, D.any, D.any, D.any, D.any, D.any, D.any, D.any, D.any, D.any, D.any, D.any, D.any, D.any, D.any, D.any, D.any, D.any, D.any, D.any, D.any] []) (x2).snd)))))))
theorem r41 (a0 : D) (A : St) : Run Try.prog codecH 41 [a0] A = f41 (Run Try.prog codecH) (Dcall Try.prog codecH) a0 A := by
  rw [Run_eqK (J := k41)]
  kernel_rfl
noncomputable def f42_s0 (call : (FuncId → ((List D) → (St → ORes)))) (dcall : (D → ((List D) → ((Option D) → (St → (Option ((Option D) × St))))))) (A : St) (e : Env) (Av4 : St) : (Option ((Env × St) ⊕ (Res × St))) :=
  (bn (binO BinOp.lss 3 Bool.false (List.getD (e).t 13 D.any) (List.getD (e).t 12 D.any)) fun (x0 : D) =>
 (bn (D.bool? x0) fun (x1 : Bool) =>
 (ifb x1 (bn (indexAddrO 2 Bool.true (List.getD (e).t 0 D.any) (List.getD (e).t 13 D.any)) fun (x2 : D) =>
 (bn (Option.map (fun (x3 : (D × St)) => (x3).fst) (Option.map (fun (x3 : D) => (x3, Av4)) (loadO Bool.true 2 x2 Av4))) fun (x3 : D) =>
 (bn (indexAddrO 2 Bool.true (List.getD (e).t 1 D.any) (List.getD (e).t 13 D.any)) fun (x4 : D) =>
 (bn (Option.map (fun (x5 : (D × St)) => (x5).fst) (Option.map (fun (x5 : D) => (x5, Av4)) (loadO Bool.true 2 x4 Av4))) fun (x5 : D) =>
 (bn (binO BinOp.neq 102 Bool.false x3 x5) fun (x6 : D) =>
 (guardP True (bn (D.bool? x6) fun (x7 : Bool) =>
 (ifb x7 (Option.map (Sum.inr ) (bn (leavesD dcall (fun (x8 : St) => (Option.some (D.bool Bool.false))) (e).df none Av4) fun (x8 : (Res × St)) =>
 (leaveD RetK.trunc A (x8).fst (x8).snd)))
 (bn (binO BinOp.add 3 Bool.true (List.getD (e).t 13 D.any) (D.int IntKind.i64 (1 : Int))) fun (x8 : D) =>
 (guardP (Kept Av4 Av4) (Option.some (Sum.inl ((Env.mk [(D.shut (List.length Av4) (List.getD (e).t 0 D.any)), (D.shut (List.length Av4) (List.getD (e).t 1 D.any)), D.any, D.any, D.any, D.any, D.any, D.any, D.any, D.any, D.any, D.any, (D.shut (List.length Av4) (List.getD (e).t 12 D.any)), (D.shut (List.length Av4) x8), D.any, D.any, D.any, D.any, D.any, D.any, D.any, D.any, D.any, D.any, D.any, D.any] (List.map (fun (x9 : (D × (List D))) => ((D.shut (List.length Av4) x9.1), (D.shutL (List.length Av4) x9.2))) (e).df)), (List.take (List.length Av4) Av4))))))))))))))
 (Option.map (Sum.inr ) (bn (leavesD dcall (fun (x2 : St) => (Option.some (D.bool Bool.true))) (e).df none Av4) fun (x2 : (Res × St)) =>
 (leaveD RetK.trunc A (x2).fst (x2).snd))))))
noncomputable def f42 (call : (FuncId → ((List D) → (St → ORes)))) (dcall : (D → ((List D) → ((Option D) → (St → (Option ((Option D) × St))))))) (a0 : D) (a1 : D) (A : St) : (Option (Res × St)) :=
  (bn (lenSlO a0) fun (x0 : D) =>
 (bn (lenSlO a1) fun (x1 : D) =>
 (bn (binO BinOp.neq 3 Bool.false x0 x1) fun (x2 : D) =>
 (bn (D.bool? x2) fun (x3 : Bool) =>
 (ifb x3 (leaveD RetK.trunc A (Res.ret (D.bool Bool.false)) A)
 (bn (lenSlO a0) fun (x4 : D) =>
 (iterK (f42_s0 call dcall A) (Env.mk [a0, a1, D.any, D.any, D.any, D.any, D.any, D.any, D.any, D.any, D.any, D.any, x4, (D.int IntKind.i64 (0 : Int)), D.any, D.any, D.any, D.any, D.any, D.any, D.any, D.any, D.any, D.any, D.any, D.any] []) A)))))))
theorem r42 (a0 a1 : D) (A : St) : Run Try.prog codecH 42 [a0, a1] A = f42 (Run Try.prog codecH) (Dcall Try.prog codecH) a0 a1 A := by
  rw [Run_eqK (J := k42)]
  kernel_rfl
noncomputable def f43_s0 (call : (FuncId → ((List D) → (St → ORes)))) (dcall : (D → ((List D) → ((Option D) → (St → (Option ((Option D) × St))))))) (A : St) (e : Env) (Av4 : St) : (Option ((Env × St) ⊕ (Res × St))) :=
  (bn (binO BinOp.lss 3 Bool.false (List.getD (e).t 17 D.any) (List.getD (e).t 16 D.any)) fun (x0 : D) =>
 (bn (D.bool? x0) fun (x1 : Bool) =>
 (ifb x1 (bn (indexAddrO 2 Bool.true (List.getD (e).t 15 D.any) (List.getD (e).t 17 D.any)) fun (x2 : D) =>
 (bn (Option.map (fun (x3 : D) => (x3, Av4)) (loadO Bool.true 2 x2 Av4)) fun (x3 : (D × St)) =>
 (bn (allocO [(D.int IntKind.u64 (0 : Int)), (D.sl Own.full 0 [])] (x3).snd) fun (x4 : (D × St)) =>
 (bn (Option.map (fun (x5 : St) => ((D.tup []), x5)) (storeO Bool.true 2 (x4).fst (x3).fst (x4).snd)) fun (x5 : (D × St)) =>
 (bn (indexAddrO 2 Bool.true (List.getD (e).t 1 D.any) (List.getD (e).t 17 D.any)) fun (x6 : D) =>
 (bn (Option.map (fun (x7 : D) => (x7, (x5).snd)) (loadO Bool.true 2 x6 (x5).snd)) fun (x7 : (D × St)) =>
 (bn (allocO [(D.int IntKind.u64 (0 : Int)), (D.sl Own.full 0 [])] (x7).snd) fun (x8 : (D × St)) =>
 (bn (Option.map (fun (x9 : St) => ((D.tup []), x9)) (storeO Bool.true 2 (x8).fst (x7).fst (x8).snd)) fun (x9 : (D × St)) =>
 (bn (Option.map (fun (x10 : D) => (x10, (x9).snd)) (loadO Bool.true 2 (x4).fst (x9).snd)) fun (x10 : (D × St)) =>
 (bn (Option.map (fun (x11 : D) => (x11, (x10).snd)) (loadO Bool.true 2 (x8).fst (x10).snd)) fun (x11 : (D × St)) =>
 (bn (applyD call (List.getD (e).t 2 D.any) [(x10).fst, (x11).fst] (x11).snd) fun (x12 : (Res × St)) =>
 (Res.elim (x12).fst (fun (x13 : D) => (bn (unD UnOp.not x13) fun (x14 : D) =>
 (bn (D.bool? x14) fun (x15 : Bool) =>
 (ifb x15 (Option.map (Sum.inr ) (bn (leavesD dcall (fun (x16 : St) => (Option.some (D.bool Bool.false))) (e).df none (x12).snd) fun (x16 : (Res × St)) =>
 (leaveD RetK.trunc A (x16).fst (x16).snd)))
 (bn (binO BinOp.add 3 Bool.true (List.getD (e).t 17 D.any) (D.int IntKind.i64 (1 : Int))) fun (x16 : D) =>
 (guardP (Kept Av4 (x12).snd) (Option.some (Sum.inl ((Env.mk [D.any, (D.shut (List.length Av4) (List.getD (e).t 1 D.any)), (D.shut (List.length Av4) (List.getD (e).t 2 D.any)), D.any, D.any, D.any, D.any, D.any, D.any, D.any, D.any, D.any, D.any, D.any, D.any, (D.shut (List.length Av4) (List.getD (e).t 15 D.any)), (D.shut (List.length Av4) (List.getD (e).t 16 D.any)), (D.shut (List.length Av4) x16), D.any, D.any, D.any, D.any, D.any, D.any, D.any, D.any, D.any, D.any, D.any, D.any, D.any, D.any] (List.map (fun (x17 : (D × (List D))) => ((D.shut (List.length Av4) x17.1), (D.shutL (List.length Av4) x17.2))) (e).df)), (List.take (List.length Av4) (x12).snd)))))))))) (fun (x13 : D) => (Option.map (Sum.inr ) (bn (leavesD dcall (fun (x14 : St) => (Option.some (List.getD (e).t 6 D.any))) (e).df (Option.some x13) (x12).snd) fun (x14 : (Res × St)) =>
 (leaveD RetK.trunc A (x14).fst (x14).snd))))))))))))))))
 (Option.map (Sum.inr ) (bn (leavesD dcall (fun (x2 : St) => (Option.some (D.bool Bool.true))) (e).df none Av4) fun (x2 : (Res × St)) =>
 (leaveD RetK.trunc A (x2).fst (x2).snd))))))
noncomputable def f43 (call : (FuncId → ((List D) → (St → ORes)))) (dcall : (D → ((List D) → ((Option D) → (St → (Option ((Option D) × St))))))) (a0 : D) (a1 : D) (a2 : D) (A : St) : (Option (Res × St)) :=
  (bn (lenSlO a0) fun (x0 : D) =>
 (bn (lenSlO a1) fun (x1 : D) =>
 (bn (binO BinOp.neq 3 Bool.false x0 x1) fun (x2 : D) =>
 (bn (D.bool? x2) fun (x3 : Bool) =>
 (ifb x3 (leaveD RetK.trunc A (Res.ret (D.bool Bool.false)) A)
 (bn (lenSlO a0) fun (x4 : D) =>
 (iterK (f43_s0 call dcall A) (Env.mk [D.any, a1, a2, D.any, D.any, D.any, D.any, D.any, D.any, D.any, D.any, D.any, D.any, D.any, D.any, a0, x4, (D.int IntKind.i64 (0 : Int)), D.any, D.any, D.any, D.any, D.any, D.any, D.any, D.any, D.any, D.any, D.any, D.any, D.any, D.any] []) A)))))))
theorem r43 (a0 a1 a2 : D) (A : St) : Run Try.prog codecH 43 [a0, a1, a2] A = f43 (Run Try.prog codecH) (Dcall Try.prog codecH) a0 a1 a2 A := by
  rw [Run_eqK (J := k43)]
  kernel_rfl
noncomputable def f44 (call : (FuncId → ((List D) → (St → ORes)))) (dcall : (D → ((List D) → ((Option D) → (St → (Option ((Option D) × St))))))) (a0 : D) (a1 : D) (A : St) : (Option (Res × St)) :=
  (bn (boxO Bool.true a0 A) fun (x0 : (D × St)) =>
 (bn (boxO Bool.true a1 (x0).snd) fun (x1 : (D × St)) =>
 (bn (fieldAddrO 0 (x0).fst) fun (x2 : D) =>
 (bn (Option.map (fun (x3 : D) => (x3, (x1).snd)) (loadO Bool.false 1 x2 (x1).snd)) fun (x3 : (D × St)) =>
 (bn (fieldAddrO 0 (x1).fst) fun (x4 : D) =>
 (bn (Option.map (fun (x5 : D) => (x5, (x3).snd)) (loadO Bool.false 1 x4 (x3).snd)) fun (x5 : (D × St)) =>
 (bn (binO BinOp.eql 3 Bool.false (x3).fst (x5).fst) fun (x6 : D) =>
 (bn (guardB Bool.true x6) fun (x7 : Bool) =>
 (bn (ifb x7 (fieldAddrO 1 (x0).fst)
 (Option.some (D.tup []))) fun (x8 : D) =>
 (bn (guardB Bool.true x6) fun (x9 : Bool) =>
 (bn (ifb x9 (Option.map (fun (x10 : D) => (x10, (x5).snd)) (loadO Bool.false 1 x8 (x5).snd))
 (Option.some ((D.tup []), (x5).snd))) fun (x10 : (D × St)) =>
 (bn (guardB Bool.true x6) fun (x11 : Bool) =>
 (bn (ifb x11 (fieldAddrO 1 (x1).fst)
 (Option.some (D.tup []))) fun (x12 : D) =>
 (bn (guardB Bool.true x6) fun (x13 : Bool) =>
 (bn (ifb x13 (Option.map (fun (x14 : D) => (x14, (x10).snd)) (loadO Bool.false 1 x12 (x10).snd))
 (Option.some ((D.tup []), (x10).snd))) fun (x14 : (D × St)) =>
 (bn (guardB Bool.true x6) fun (x15 : Bool) =>
 (bn (ifb x15 (call 45 [(x10).fst, (x14).fst] (x14).snd)
 (Option.some ((Res.ret (D.tup [])), (x14).snd))) fun (x16 : (Res × St)) =>
 (Res.elim (x16).fst (fun (x17 : D) => (bn (Option.map (fun (x18 : Bool) => (ifb x18 x17
 (D.bool Bool.false))) (D.bool? x6)) fun (x18 : D) =>
 (leaveD RetK.trunc A (Res.ret x18) (x16).snd))) (fun (x17 : D) => (leaveD RetK.trunc A (Res.pan x17) (x16).snd))))))))))))))))))))
theorem r44 (a0 a1 : D) (A : St) : Run Try.prog codecH 44 [a0, a1] A = f44 (Run Try.prog codecH) (Dcall Try.prog codecH) a0 a1 A := by
  rw [Run_eqK (J := k44)]
  kernel_rfl
noncomputable def f45_s0 (call : (FuncId → ((List D) → (St → ORes)))) (dcall : (D → ((List D) → ((Option D) → (St → (Option ((Option D) × St))))))) (A : St) (e : Env) (Av4 : St) : (Option ((Env × St) ⊕ (Res × St))) :=
  (bn (binO BinOp.lss 3 Bool.false (List.getD (e).t 13 D.any) (List.getD (e).t 12 D.any)) fun (x0 : D) =>
 (bn (D.bool? x0) fun (x1 : Bool) =>
 (ifb x1 (bn (indexAddrO 1 Bool.false (List.getD (e).t 0 D.any) (List.getD (e).t 13 D.any)) fun (x2 : D) =>
 (bn (Option.map (fun (x3 : (D × St)) => (x3).fst) (Option.map (fun (x3 : D) => (x3, Av4)) (loadO Bool.false 1 x2 Av4))) fun (x3 : D) =>
 (bn (indexAddrO 1 Bool.false (List.getD (e).t 1 D.any) (List.getD (e).t 13 D.any)) fun (x4 : D) =>
 (bn (Option.map (fun (x5 : (D × St)) => (x5).fst) (Option.map (fun (x5 : D) => (x5, Av4)) (loadO Bool.false 1 x4 Av4))) fun (x5 : D) =>
 (bn (binO BinOp.neq 3 Bool.false x3 x5) fun (x6 : D) =>
 (guardP True (bn (D.bool? x6) fun (x7 : Bool) =>
 (ifb x7 (Option.map (Sum.inr ) (bn (leavesD dcall (fun (x8 : St) => (Option.some (D.bool Bool.false))) (e).df none Av4) fun (x8 : (Res × St)) =>
 (leaveD RetK.trunc A (x8).fst (x8).snd)))
 (bn (binO BinOp.add 3 Bool.true (List.getD (e).t 13 D.any) (D.int IntKind.i64 (1 : Int))) fun (x8 : D) =>
 (guardP (Kept Av4 Av4) (Option.some (Sum.inl ((Env.mk [(D.shut (List.length Av4) (List.getD (e).t 0 D.any)), (D.shut (List.length Av4) (List.getD (e).t 1 D.any)), D.any, D.any, D.any, D.any, D.any, D.any, D.any, D.any, D.any, D.any, (D.shut (List.length Av4) (List.getD (e).t 12 D.any)), (D.shut (List.length Av4) x8), D.any, D.any, D.any, D.any, D.any, D.any, D.any, D.any, D.any, D.any, D.any, D.any] (List.map (fun (x9 : (D × (List D))) => ((D.shut (List.length Av4) x9.1), (D.shutL (List.length Av4) x9.2))) (e).df)), (List.take (List.length Av4) Av4))))))))))))))
 (Option.map (Sum.inr ) (bn (leavesD dcall (fun (x2 : St) => (Option.some (D.bool Bool.true))) (e).df none Av4) fun (x2 : (Res × St)) =>
 (leaveD RetK.trunc A (x2).fst (x2).snd))))))
noncomputable def f45 (call : (FuncId → ((List D) → (St → ORes)))) (dcall : (D → ((List D) → ((Option D) → (St → (Option ((Option D) × St))))))) (a0 : D) (a1 : D) (A : St) : (Option (Res × St)) :=
  (bn (lenSlO a0) fun (x0 : D) =>
 (bn (lenSlO a1) fun (x1 : D) =>
 (bn (binO BinOp.neq 3 Bool.false x0 x1) fun (x2 : D) =>
 (bn (D.bool? x2) fun (x3 : Bool) =>
 (ifb x3 (leaveD RetK.trunc A (Res.ret (D.bool Bool.false)) A)
 (bn (lenSlO a0) fun (x4 : D) =>
 (iterK (f45_s0 call dcall A) (Env.mk [a0, a1, D.any, D.any, D.any, D.any, D.any, D.any, D.any, D.any, D.any, D.any, x4, (D.int IntKind.i64 (0 : Int)), D.any, D.any, D.any, D.any, D.any, D.any, D.any, D.any, D.any, D.any, D.any, D.any] []) A)))))))
theorem r45 (a0 a1 : D) (A : St) : Run Try.prog codecH 45 [a0, a1] A = f45 (Run Try.prog codecH) (Dcall Try.prog codecH) a0 a1 A := by
  rw [Run_eqK (J := k45)]
  kernel_rfl
noncomputable def f46_s0 (call : (FuncId → ((List D) → (St → ORes)))) (dcall : (D → ((List D) → ((Option D) → (St → (Option ((Option D) × St))))))) (A : St) (e : Env) (Av4 : St) : (Option ((Env × St) ⊕ (Res × St))) :=
  (bn (lenSlO (List.getD (e).t 0 D.any)) fun (x0 : D) =>
 (bn (binO BinOp.lss 3 Bool.false (List.getD (e).t 5 D.any) x0) fun (x1 : D) =>
 (bn (D.bool? x1) fun (x2 : Bool) =>
 (ifb x2 (bn (binO BinOp.sub 3 Bool.true (List.getD (e).t 5 D.any) (D.int IntKind.i64 (1 : Int))) fun (x3 : D) =>
 (bn (indexAddrO 2 Bool.true (List.getD (e).t 0 D.any) x3) fun (x4 : D) =>
 (bn (Option.map (fun (x5 : (D × St)) => (x5).fst) (Option.map (fun (x5 : D) => (x5, Av4)) (loadO Bool.true 2 x4 Av4))) fun (x5 : D) =>
 (bn (applyD call (List.getD (e).t 1 D.any) [x5] Av4) fun (x6 : (Res × St)) =>
 (Res.elim (x6).fst (fun (x7 : D) => (bn (indexAddrO 2 Bool.true (List.getD (e).t 0 D.any) (List.getD (e).t 5 D.any)) fun (x8 : D) =>
 (bn (Option.map (fun (x9 : (D × St)) => (x9).fst) (Option.map (fun (x9 : D) => (x9, (x6).snd)) (loadO Bool.true 2 x8 (x6).snd))) fun (x9 : D) =>
 (bn (applyD call (List.getD (e).t 1 D.any) [x9] (x6).snd) fun (x10 : (Res × St)) =>
 (Res.elim (x10).fst (fun (x11 : D) => (bn (binO BinOp.geq 3 Bool.false x7 x11) fun (x12 : D) =>
 (guardP ((sameAd x8 Av4 (x6).snd) ∧ True) (bn (D.bool? x12) fun (x13 : Bool) =>
 (ifb x13 (Option.map (Sum.inr ) (bn (leavesD dcall (fun (x14 : St) => (Option.some (D.bool Bool.false))) (e).df none (x10).snd) fun (x14 : (Res × St)) =>
 (leaveD RetK.trunc A (x14).fst (x14).snd)))
 (bn (binO BinOp.add 3 Bool.true (List.getD (e).t 5 D.any) (D.int IntKind.i64 (1 : Int))) fun (x14 : D) =>
 (guardP (Kept Av4 (x10).snd) (Option.some (Sum.inl ((Env.mk [(D.shut (List.length Av4) (List.getD (e).t 0 D.any)), (D.shut (List.length Av4) (List.getD (e).t 1 D.any)), D.any, D.any, D.any, (D.shut (List.length Av4) x14), D.any, D.any, D.any, D.any, D.any, D.any, D.any, D.any, D.any, D.any, D.any, D.any, D.any, D.any, D.any, D.any, D.any, D.any, D.any, D.any] (List.map (fun (x15 : (D × (List D))) => ((D.shut (List.length Av4) x15.1), (D.shutL (List.length Av4) x15.2))) (e).df)), (List.take (List.length Av4) (x10).snd))))))))))) (fun (x11 : D) => (guardP ((sameAd x8 Av4 (x6).snd) ∧ True) (Option.map (Sum.inr ) (bn (leavesD dcall (fun (x12 : St) => (Option.some (List.getD (e).t 4 D.any))) (e).df (Option.some x11) (x10).snd) fun (x12 : (Res × St)) =>
 (leaveD RetK.trunc A (x12).fst (x12).snd)))))))))) (fun (x7 : D) => none))))))
 (Option.map (Sum.inr ) (bn (leavesD dcall (fun (x3 : St) => (Option.some (D.bool Bool.true))) (e).df none Av4) fun (x3 : (Res × St)) =>
 (leaveD RetK.trunc A (x3).fst (x3).snd)))))))
noncomputable def f46 (call : (FuncId → ((List D) → (St → ORes)))) (dcall : (D → ((List D) → ((Option D) → (St → (Option ((Option D) × St))))))) (a0 : D) (a1 : D) (A : St) : (Option (Res × St)) :=
  (iterK (f46_s0 call dcall A) (Env.mk [a0, a1, D.any, D.any, D.any, (D.int IntKind.i64 (1 : Int)), D.any, D.any, D.any, D.any, D.any, D.any, D.any, D.any, D.any, D.any, D.any, D.any, D.any, D.any, D.any, D.any, D.any, D.any, D.any, D.any] []) A)
theorem r46 (a0 a1 : D) (A : St) : Run Try.prog codecH 46 [a0, a1] A = f46 (Run Try.prog codecH) (Dcall Try.prog codecH) a0 a1 A := by
  rw [Run_eqK (J := k46)]
  kernel_rfl
noncomputable def f47 (call : (FuncId → ((List D) → (St → ORes)))) (dcall : (D → ((List D) → ((Option D) → (St → (Option ((Option D) × St))))))) (a0 : D) (A : St) : (Option (Res × St)) :=
  (bn (boxO Bool.true a0 A) fun (x0 : (D × St)) =>
 (bn (fieldAddrO 0 (x0).fst) fun (x1 : D) =>
 (bn (Option.map (fun (x2 : D) => (x2, (x0).snd)) (loadO Bool.false 1 x1 (x0).snd)) fun (x2 : (D × St)) =>
 (leaveD RetK.trunc A (Res.ret (x2).fst) (x2).snd))))
theorem r47 (a0 : D) (A : St) : Run Try.prog codecH 47 [a0] A = f47 (Run Try.prog codecH) (Dcall Try.prog codecH) a0 A := by
  rw [Run_eqK (J := k47)]
  kernel_rfl
noncomputable def f48 (call : (FuncId → ((List D) → (St → ORes)))) (dcall : (D → ((List D) → ((Option D) → (St → (Option ((Option D) × St))))))) (a0 : D) (a1 : D) (A : St) : (Option (Res × St)) :=
  (bn (call 52 [a0, a1] A) fun (x0 : (Res × St)) =>
 (Res.elim (x0).fst (fun (x1 : D) => (bn (binO BinOp.geq 3 Bool.true x1 (D.int IntKind.i64 (0 : Int))) fun (x2 : D) =>
 (leaveD RetK.trunc A (Res.ret x2) (x0).snd))) (fun (x1 : D) => (leaveD RetK.trunc A (Res.pan x1) (x0).snd))))
theorem r48 (a0 a1 : D) (A : St) : Run Try.prog codecH 48 [a0, a1] A = f48 (Run Try.prog codecH) (Dcall Try.prog codecH) a0 a1 A := by
  rw [Run_eqK (J := k48)]
  kernel_rfl
noncomputable def f49 (call : (FuncId → ((List D) → (St → ORes)))) (dcall : (D → ((List D) → ((Option D) → (St → (Option ((Option D) × St))))))) (a0 : D) (A : St) : (Option (Res × St)) :=
  (bn (boxO Bool.true a0 A) fun (x0 : (D × St)) =>
 (bn (fieldAddrO 0 (x0).fst) fun (x1 : D) =>
 (bn (Option.map (fun (x2 : D) => (x2, (x0).snd)) (loadO Bool.false 1 x1 (x0).snd)) fun (x2 : (D × St)) =>
 (bn (call 50 [(x2).fst] (x2).snd) fun (x3 : (Res × St)) =>
 (Res.elim (x3).fst (fun (x4 : D) => (bn (unD UnOp.not x4) fun (x5 : D) =>
 (leaveD RetK.trunc A (Res.ret x5) (x3).snd))) (fun (x4 : D) => (leaveD RetK.trunc A (Res.pan x4) (x3).snd)))))))
theorem r49 (a0 : D) (A : St) : Run Try.prog codecH 49 [a0] A = f49 (Run Try.prog codecH) (Dcall Try.prog codecH) a0 A := by
  rw [Run_eqK (J := k49)]
  kernel_rfl
noncomputable def f50 (call : (FuncId → ((List D) → (St → ORes)))) (dcall : (D → ((List D) → ((Option D) → (St → (Option ((Option D) × St))))))) (a0 : D) (A : St) : (Option (Res × St)) :=
  (bn (binO BinOp.geq 3 Bool.true a0 (D.int IntKind.i64 (0 : Int))) fun (x0 : D) =>
 (bn (guardB Bool.true x0) fun (x1 : Bool) =>
 (bn (ifb x1 (Option.some a0)
 (Option.some (D.tup []))) fun (x2 : D) =>
 (bn (guardB Bool.true x0) fun (x3 : Bool) =>
 (bn (ifb x3 (binO BinOp.lss 3 Bool.true x2 (D.int IntKind.i64 (256 : Int)))
 (Option.some (D.tup []))) fun (x4 : D) =>
 (bn (Option.map (fun (x5 : Bool) => (ifb x5 x4
 (D.bool Bool.false))) (D.bool? x0)) fun (x5 : D) =>
 (leaveD RetK.trunc A (Res.ret x5) A)))))))
theorem r50 (a0 : D) (A : St) : Run Try.prog codecH 50 [a0] A = f50 (Run Try.prog codecH) (Dcall Try.prog codecH) a0 A := by
  rw [Run_eqK (J := k50)]
  kernel_rfl
noncomputable def f51 (call : (FuncId → ((List D) → (St → ORes)))) (dcall : (D → ((List D) → ((Option D) → (St → (Option ((Option D) × St))))))) (a0 : D) (A : St) : (Option (Res × St)) :=
  (bn (binO BinOp.geq 3 Bool.true a0 (D.int IntKind.i64 (0 : Int))) fun (x0 : D) =>
 (bn (guardB Bool.true x0) fun (x1 : Bool) =>
 (bn (ifb x1 (Option.some a0)
 (Option.some (D.tup []))) fun (x2 : D) =>
 (bn (guardB Bool.true x0) fun (x3 : Bool) =>
 (bn (ifb x3 (binO BinOp.lss 3 Bool.true x2 (D.int IntKind.i64 (256 : Int)))
 (Option.some (D.tup []))) fun (x4 : D) =>
 (bn (Option.map (fun (x5 : Bool) => (ifb x5 x4
 (D.bool Bool.false))) (D.bool? x0)) fun (x5 : D) =>
 (leaveD RetK.trunc A (Res.ret x5) A)))))))
theorem r51 (a0 : D) (A : St) : Run Try.prog codecH 51 [a0] A = f51 (Run Try.prog codecH) (Dcall Try.prog codecH) a0 A := by
  rw [Run_eqK (J := k51)]
  kernel_rfl
noncomputable def f52_s0 (call : (FuncId → ((List D) → (St → ORes)))) (dcall : (D → ((List D) → ((Option D) → (St → (Option ((Option D) × St))))))) (A : St) (e : Env) (Av4 : St) : (Option ((Env × St) ⊕ (Res × St))) :=
  (bn (binO BinOp.lss 3 Bool.false (List.getD (e).t 8 D.any) (List.getD (e).t 7 D.any)) fun (x0 : D) =>
 (bn (D.bool? x0) fun (x1 : Bool) =>
 (ifb x1 (bn (indexAddrO 2 Bool.true (List.getD (e).t 0 D.any) (List.getD (e).t 8 D.any)) fun (x2 : D) =>
 (bn (Option.map (fun (x3 : D) => (x3, Av4)) (loadO Bool.true 2 x2 Av4)) fun (x3 : (D × St)) =>
 (bn (applyD call (List.getD (e).t 1 D.any) [(x3).fst] (x3).snd) fun (x4 : (Res × St)) =>
 (Res.elim (x4).fst (fun (x5 : D) => (bn (D.bool? x5) fun (x6 : Bool) =>
 (ifb x6 (Option.map (Sum.inr ) (bn (leavesD dcall (fun (x7 : St) => (Option.some (List.getD (e).t 8 D.any))) (e).df none (x4).snd) fun (x7 : (Res × St)) =>
 (leaveD RetK.trunc A (x7).fst (x7).snd)))
 (bn (binO BinOp.add 3 Bool.true (List.getD (e).t 8 D.any) (D.int IntKind.i64 (1 : Int))) fun (x7 : D) =>
 (guardP (Kept Av4 (x4).snd) (Option.some (Sum.inl ((Env.mk [(D.shut (List.length Av4) (List.getD (e).t 0 D.any)), (D.shut (List.length Av4) (List.getD (e).t 1 D.any)), D.any, D.any, D.any, D.any, D.any, (D.shut (List.length Av4) (List.getD (e).t 7 D.any)), (D.shut (List.length Av4) x7), D.any, D.any, D.any, D.any, D.any, D.any, D.any, D.any, D.any, D.any] (List.map (fun (x8 : (D × (List D))) => ((D.shut (List.length Av4) x8.1), (D.shutL (List.length Av4) x8.2))) (e).df)), (List.take (List.length Av4) (x4).snd))))))))) (fun (x5 : D) => (Option.map (Sum.inr ) (bn (leavesD dcall (fun (x6 : St) => (Option.some (List.getD (e).t 4 D.any))) (e).df (Option.some x5) (x4).snd) fun (x6 : (Res × St)) =>
 (leaveD RetK.trunc A (x6).fst (x6).snd))))))))
 (Option.map (Sum.inr ) (bn (leavesD dcall (fun (x2 : St) => (Option.some (D.int IntKind.i64 (-1 : Int)))) (e).df none Av4) fun (x2 : (Res × St)) =>
 (leaveD RetK.trunc A (x2).fst (x2).snd))))))
noncomputable def f52 (call : (FuncId → ((List D) → (St → ORes)))) (dcall : (D → ((List D) → ((Option D) → (St → (Option ((Option D) × St))))))) (a0 : D) (a1 : D) (A : St) : (Option (Res × St)) :=
  (bn (lenSlO a0) fun (x0 : D) =>
 (iterK (f52_s0 call dcall A) (Env.mk [a0, a1, D.any, D.any, D.any, D.any, D.any, x0, (D.int IntKind.i64 (0 : Int)), D.any, D.any, D.any, D.any, D.any, D.any, D.any, D.any, D.any, D.any] []) A))
theorem r52 (a0 a1 : D) (A : St) : Run Try.prog codecH 52 [a0, a1] A = f52 (Run Try.prog codecH) (Dcall Try.prog codecH) a0 a1 A := by
  rw [Run_eqK (J := k52)]
  kernel_rfl
noncomputable def f6 (call : (FuncId → ((List D) → (St → ORes)))) (dcall : (D → ((List D) → ((Option D) → (St → (Option ((Option D) × St))))))) (a0 : D) (a1 : D) (A : St) : (Option (Res × St)) :=
  (bn (boxO Bool.true a0 A) fun (x0 : (D × St)) =>
 (bn (boxO Bool.true a1 (x0).snd) fun (x1 : (D × St)) =>
 (bn (Option.map (fun (x2 : D) => (x2, (x1).snd)) (loadO Bool.true 4 (x0).fst (x1).snd)) fun (x2 : (D × St)) =>
 (bn (call 18 [(x2).fst] (x2).snd) fun (x3 : (Res × St)) =>
 (Res.elim (x3).fst (fun (x4 : D) => (bn (extractD x4 0) fun (x5 : D) =>
 (bn (extractD x4 1) fun (x6 : D) =>
 (bn (Option.map (fun (x7 : D) => (x7, (x3).snd)) (loadO Bool.true 4 (x0).fst (x3).snd)) fun (x7 : (D × St)) =>
 (bn (call 19 [(x7).fst] (x7).snd) fun (x8 : (Res × St)) =>
 (Res.elim (x8).fst (fun (x9 : D) => (bn (extractD x9 0) fun (x10 : D) =>
 (bn (extractD x9 1) fun (x11 : D) =>
 (bn (convO ConvK.bytesStr x5) fun (x12 : D) =>
 (bn (convO ConvK.bytesStr x10) fun (x13 : D) =>
 (bn (binO BinOp.eql 3 Bool.false x12 x13) fun (x14 : D) =>
 (bn (guardB Bool.true x14) fun (x15 : Bool) =>
 (bn (ifb x15 (Option.some x6)
 (Option.some (D.tup []))) fun (x16 : D) =>
 (bn (guardB Bool.true x14) fun (x17 : Bool) =>
 (bn (ifb x17 (Option.some x11)
 (Option.some (D.tup []))) fun (x18 : D) =>
 (bn (guardB Bool.true x14) fun (x19 : Bool) =>
 (bn (ifb x19 (binO BinOp.eql 3 Bool.false x16 x18)
 (Option.some (D.tup []))) fun (x20 : D) =>
 (bn (Option.map (fun (x21 : Bool) => (ifb x21 x20
 (D.bool Bool.false))) (D.bool? x14)) fun (x21 : D) =>
 (bn (guardB Bool.true x21) fun (x22 : Bool) =>
 (bn (ifb x22 (Option.map (fun (x23 : (D × St)) => (x23).fst) (Option.map (fun (x23 : D) => (x23, (x8).snd)) (loadO Bool.true 4 (x0).fst (x8).snd)))
 (Option.some (D.tup []))) fun (x23 : D) =>
 (bn (guardB Bool.true x21) fun (x24 : Bool) =>
 (bn (ifb x24 (call 20 [x23] (x8).snd)
 (Option.some ((Res.ret (D.tup [])), (x8).snd))) fun (x25 : (Res × St)) =>
 (Res.elim (x25).fst (fun (x26 : D) => (bn (guardB Bool.true x21) fun (x27 : Bool) =>
 (bn (ifb x27 (Option.map (fun (x28 : (D × St)) => (x28).fst) (Option.map (fun (x28 : D) => (x28, (x25).snd)) (loadO Bool.true 4 (x0).fst (x25).snd)))
 (Option.some (D.tup []))) fun (x28 : D) =>
 (bn (guardB Bool.true x21) fun (x29 : Bool) =>
 (bn (ifb x29 (call 21 [x28] (x25).snd)
 (Option.some ((Res.ret (D.tup [])), (x25).snd))) fun (x30 : (Res × St)) =>
 (Res.elim (x30).fst (fun (x31 : D) => (bn (guardB Bool.true x21) fun (x32 : Bool) =>
 (bn (ifb x32 (binO BinOp.eql 3 Bool.false x26 x31)
 (Option.some (D.tup []))) fun (x33 : D) =>
 (bn (Option.map (fun (x34 : Bool) => (ifb x34 x33
 (D.bool Bool.false))) (D.bool? x21)) fun (x34 : D) =>
 (bn (guardB Bool.true x34) fun (x35 : Bool) =>
 (bn (ifb x35 (Option.map (fun (x36 : (D × St)) => (x36).fst) (Option.map (fun (x36 : D) => (x36, (x30).snd)) (loadO Bool.true 4 (x0).fst (x30).snd)))
 (Option.some (D.tup []))) fun (x36 : D) =>
 (bn (guardB Bool.true x34) fun (x37 : Bool) =>
 (bn (ifb x37 (Option.map (fun (x38 : (D × St)) => (x38).fst) (Option.map (fun (x38 : D) => (x38, (x30).snd)) (loadO Bool.true 4 (x1).fst (x30).snd)))
 (Option.some (D.tup []))) fun (x38 : D) =>
 (bn (guardB Bool.true x34) fun (x39 : Bool) =>
 (bn (ifb x39 (call 22 [x36, x38] (x30).snd)
 (Option.some ((Res.ret (D.tup [])), (x30).snd))) fun (x40 : (Res × St)) =>
 (Res.elim (x40).fst (fun (x41 : D) => (bn (guardB Bool.true x34) fun (x42 : Bool) =>
 (bn (ifb x42 (Option.map (fun (x43 : (D × St)) => (x43).fst) (Option.map (fun (x43 : D) => (x43, (x40).snd)) (loadO Bool.true 4 (x0).fst (x40).snd)))
 (Option.some (D.tup []))) fun (x43 : D) =>
 (bn (guardB Bool.true x34) fun (x44 : Bool) =>
 (bn (ifb x44 (Option.map (fun (x45 : (D × St)) => (x45).fst) (Option.map (fun (x45 : D) => (x45, (x40).snd)) (loadO Bool.true 4 (x1).fst (x40).snd)))
 (Option.some (D.tup []))) fun (x45 : D) =>
 (bn (guardB Bool.true x34) fun (x46 : Bool) =>
 (bn (ifb x46 (call 17 [x43, x45] (x40).snd)
 (Option.some ((Res.ret (D.tup [])), (x40).snd))) fun (x47 : (Res × St)) =>
 (Res.elim (x47).fst (fun (x48 : D) => (bn (guardB Bool.true x34) fun (x49 : Bool) =>
 (bn (ifb x49 (binO BinOp.eql 0 Bool.false x41 x48)
 (Option.some (D.tup []))) fun (x50 : D) =>
 (bn (Option.map (fun (x51 : Bool) => (ifb x51 x50
 (D.bool Bool.false))) (D.bool? x34)) fun (x51 : D) =>
 (bn (guardB Bool.true x51) fun (x52 : Bool) =>
 (bn (ifb x52 (Option.map (fun (x53 : (D × St)) => (x53).fst) (Option.map (fun (x53 : D) => (x53, (x47).snd)) (loadO Bool.true 4 (x0).fst (x47).snd)))
 (Option.some (D.tup []))) fun (x53 : D) =>
 (bn (guardB Bool.true x51) fun (x54 : Bool) =>
 (bn (ifb x54 (Option.map (fun (x55 : (D × St)) => (x55).fst) (Option.map (fun (x55 : D) => (x55, (x47).snd)) (loadO Bool.true 4 (x0).fst (x47).snd)))
 (Option.some (D.tup []))) fun (x55 : D) =>
 (bn (guardB Bool.true x51) fun (x56 : Bool) =>
 (bn (ifb x56 (call 22 [x53, x55] (x47).snd)
 (Option.some ((Res.ret (D.tup [])), (x47).snd))) fun (x57 : (Res × St)) =>
 (Res.elim (x57).fst (fun (x58 : D) => (bn (Option.map (fun (x59 : Bool) => (ifb x59 x58
 (D.bool Bool.false))) (D.bool? x51)) fun (x59 : D) =>
 (bn (guardB Bool.true x59) fun (x60 : Bool) =>
 (bn (ifb x60 (call 14 [] (x57).snd)
 (Option.some ((Res.ret (D.tup [])), (x57).snd))) fun (x61 : (Res × St)) =>
 (Res.elim (x61).fst (fun (x62 : D) => (bn (Option.map (fun (x63 : Bool) => (ifb x63 x62
 (D.bool Bool.false))) (D.bool? x59)) fun (x63 : D) =>
 (guardP ((sameAd (ifb x27 (x0).fst
 D.any) (x8).snd (x25).snd) ∧ ((sameAd (ifb x42 (x0).fst
 D.any) (x30).snd (x40).snd) ∧ ((sameAd (ifb x44 (x1).fst
 D.any) (x30).snd (x40).snd) ∧ True))) (leaveD RetK.trunc A (Res.ret x63) (x61).snd)))) (fun (x62 : D) => (guardP ((sameAd (ifb x27 (x0).fst
 D.any) (x8).snd (x25).snd) ∧ ((sameAd (ifb x42 (x0).fst
 D.any) (x30).snd (x40).snd) ∧ ((sameAd (ifb x44 (x1).fst
 D.any) (x30).snd (x40).snd) ∧ True))) (leaveD RetK.trunc A (Res.pan x62) (x61).snd)))))))) (fun (x58 : D) => (guardP ((sameAd (ifb x27 (x0).fst
 D.any) (x8).snd (x25).snd) ∧ ((sameAd (ifb x42 (x0).fst
 D.any) (x30).snd (x40).snd) ∧ ((sameAd (ifb x44 (x1).fst
 D.any) (x30).snd (x40).snd) ∧ True))) (leaveD RetK.trunc A (Res.pan x58) (x57).snd)))))))))))))) (fun (x48 : D) => (guardP ((sameAd (ifb x27 (x0).fst
 D.any) (x8).snd (x25).snd) ∧ ((sameAd (ifb x42 (x0).fst
 D.any) (x30).snd (x40).snd) ∧ ((sameAd (ifb x44 (x1).fst
 D.any) (x30).snd (x40).snd) ∧ True))) (leaveD RetK.trunc A (Res.pan x48) (x47).snd))))))))))) (fun (x41 : D) => none)))))))))))) (fun (x31 : D) => (guardP ((sameAd (ifb x27 (x0).fst
 D.any) (x8).snd (x25).snd) ∧ (True ∧ (True ∧ True))) (leaveD RetK.trunc A (Res.pan x31) (x30).snd))))))))) (fun (x26 : D) => none))))))))))))))))))) (fun (x9 : D) => (leaveD RetK.trunc A (Res.pan x9) (x8).snd)))))))) (fun (x4 : D) => (leaveD RetK.trunc A (Res.pan x4) (x3).snd)))))))
theorem r6 (a0 a1 : D) (A : St) : Run Try.prog codecH 6 [a0, a1] A = f6 (Run Try.prog codecH) (Dcall Try.prog codecH) a0 a1 A := by
  rw [Run_eqK (J := k6)]
  kernel_rfl
end Go.Vm.Codec
