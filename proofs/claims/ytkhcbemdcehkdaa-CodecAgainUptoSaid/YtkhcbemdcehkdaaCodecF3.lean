/- Written by a program: what the abstract run of each function comes to, one definition a function, and its equation. -/
import Derived.Test.YtkhcbemdcehkdaaCodecH
import Derived.KernelRfl
set_option linter.all false
namespace Go.Vm.Codec
open Go.Proofs
set_option maxRecDepth 100000
set_option linter.unusedVariables false
set_option maxHeartbeats 0
noncomputable def f18_s0 (call : (FuncId → ((List D) → (St → ORes)))) (dcall : (D → ((List D) → ((Option D) → (St → (Option ((Option D) × St))))))) (A : St) (e : Env) (Av4 : St) : (Option ((Env × St) ⊕ (Res × St))) :=
  (bn (binO BinOp.lss 3 Bool.false (List.getD (e).t 66 D.any) (List.getD (e).t 65 D.any)) fun (x0 : D) =>
 (bn (D.bool? x0) fun (x1 : Bool) =>
 (ifb x1 (bn (indexAddrO 2 Bool.true (List.getD (e).t 64 D.any) (List.getD (e).t 66 D.any)) fun (x2 : D) =>
 (bn (Option.map (fun (x3 : D) => (x3, Av4)) (loadO Bool.true 2 x2 Av4)) fun (x3 : (D × St)) =>
 (bn (allocO [(D.int IntKind.u64 (0 : Int)), (D.sl Own.full 0 [])] (x3).snd) fun (x4 : (D × St)) =>
 (bn (Option.map (fun (x5 : St) => ((D.tup []), x5)) (storeO Bool.true 2 (x4).fst (x3).fst (x4).snd)) fun (x5 : (D × St)) =>
 (bn (fieldAddrO 0 (x4).fst) fun (x6 : D) =>
 (bn (Option.map (fun (x7 : D) => (x7, (x5).snd)) (loadO Bool.false 1 x6 (x5).snd)) fun (x7 : (D × St)) =>
 (bn (Option.map (fun (x8 : D) => (x8, (x7).snd)) (Option.map (D.sl Own.full 1) (sliceParts 1 Bool.false 0 [(0, (x7).fst)]))) fun (x8 : (D × St)) =>
 (bn (call 23 [(List.getD (e).t 5 D.any), (D.int IntKind.i64 (8 : Int)), (x8).fst] (x8).snd) fun (x9 : (Res × St)) =>
 (Res.elim (x9).fst (fun (x10 : D) => (bn (fieldAddrO 1 (x4).fst) fun (x11 : D) =>
 (bn (Option.map (fun (x12 : D) => (x12, (x9).snd)) (loadO Bool.false 1 x11 (x9).snd)) fun (x12 : (D × St)) =>
 (bn (lenSlO (x12).fst) fun (x13 : D) =>
 (bn (convO (ConvK.int IntKind.u64) x13) fun (x14 : D) =>
 (bn (Option.map (fun (x15 : D) => (x15, (x12).snd)) (Option.map (D.sl Own.full 1) (sliceParts 1 Bool.false 0 [(0, x14)]))) fun (x15 : (D × St)) =>
 (bn (call 23 [(List.getD (e).t 5 D.any), (D.int IntKind.i64 (4 : Int)), (x15).fst] (x15).snd) fun (x16 : (Res × St)) =>
 (Res.elim (x16).fst (fun (x17 : D) => (bn (nilCheckD (List.getD (e).t 5 D.any)) fun (x18 : D) =>
 (bn (fieldAddrO 0 x18) fun (x19 : D) =>
 (bn (Option.map (fun (x20 : (D × St)) => (x20).fst) (Option.map (fun (x20 : D) => (x20, (x16).snd)) (loadO Bool.false 1 x19 (x16).snd))) fun (x20 : D) =>
 (bn (fieldAddrO 1 (x4).fst) fun (x21 : D) =>
 (bn (Option.map (fun (x22 : (D × St)) => (x22).fst) (Option.map (fun (x22 : D) => (x22, (x16).snd)) (loadO Bool.false 1 x21 (x16).snd))) fun (x22 : D) =>
 (bn (appendO 1 1 x20 x22 (x16).snd) fun (x23 : (D × St)) =>
 (bn (nilCheckD (List.getD (e).t 5 D.any)) fun (x24 : D) =>
 (bn (fieldAddrO 0 x24) fun (x25 : D) =>
 (bn (Option.map (fun (x26 : St) => ((D.tup []), x26)) (storeO Bool.false 1 x25 (x23).fst (x23).snd)) fun (x26 : (D × St)) =>
 (guardP True (bn (binO BinOp.add 3 Bool.true (List.getD (e).t 66 D.any) (D.int IntKind.i64 (1 : Int))) fun (x27 : D) =>
 (guardP (Kept Av4 (x26).snd) (Option.some (Sum.inl ((Env.mk [D.any, D.any, D.any, D.any, D.any, (D.shut (List.length Av4) (List.getD (e).t 5 D.any)), D.any, D.any, D.any, D.any, D.any, D.any, D.any, D.any, D.any, D.any, D.any, D.any, D.any, D.any, D.any, D.any, D.any, D.any, D.any, D.any, D.any, D.any, D.any, D.any, D.any, D.any, D.any, D.any, D.any, D.any, D.any, D.any, D.any, D.any, D.any, D.any, D.any, D.any, D.any, D.any, D.any, D.any, D.any, D.any, D.any, D.any, D.any, D.any, D.any, D.any, D.any, D.any, D.any, D.any, D.any, D.any, D.any, D.any, (D.shut (List.length Av4) (List.getD (e).t 64 D.any)), (D.shut (List.length Av4) (List.getD (e).t 65 D.any)), (D.shut (List.length Av4) x27), D.any, D.any, D.any, D.any, D.any, D.any, D.any, D.any, D.any, D.any, D.any, D.any, D.any, D.any, D.any, D.any, D.any, D.any, D.any, D.any, D.any, D.any, D.any, D.any, D.any, D.any, D.any, D.any, D.any, D.any] (List.map (fun (x28 : (D × (List D))) => ((D.shut (List.length Av4) x28.1), (D.shutL (List.length Av4) x28.2))) (e).df)), (List.take (List.length Av4) (x26).snd))))))))))))))))) (fun (x17 : D) => (Option.map (Sum.inr ) (bn (leavesD dcall (fun (x18 : St) => (Option.some (D.tup [(List.getD (e).t 2 D.any), (List.getD (e).t 3 D.any)]))) (e).df (Option.some x17) (x16).snd) fun (x18 : (Res × St)) =>
 (leaveD RetK.trunc A (x18).fst (x18).snd)))))))))))) (fun (x10 : D) => (Option.map (Sum.inr ) (bn (leavesD dcall (fun (x11 : St) => (Option.some (D.tup [(List.getD (e).t 2 D.any), (List.getD (e).t 3 D.any)]))) (e).df (Option.some x10) (x9).snd) fun (x11 : (Res × St)) =>
 (leaveD RetK.trunc A (x11).fst (x11).snd)))))))))))))
 (Option.map (Sum.inr ) (bn (nilCheckD (List.getD (e).t 5 D.any)) fun (x2 : D) =>
 (bn (fieldAddrO 0 x2) fun (x3 : D) =>
 (bn (Option.map (fun (x4 : D) => (x4, Av4)) (loadO Bool.false 1 x3 Av4)) fun (x4 : (D × St)) =>
 (bn (leavesD dcall (fun (x5 : St) => (Option.some (D.tup [(x4).fst, (D.int IntKind.i64 (0 : Int))]))) (e).df none (x4).snd) fun (x5 : (Res × St)) =>
 (leaveD RetK.trunc A (x5).fst (x5).snd)))))))))
noncomputable def f18_s1 (call : (FuncId → ((List D) → (St → ORes)))) (dcall : (D → ((List D) → ((Option D) → (St → (Option ((Option D) × St))))))) (A : St) (e : Env) (Av4 : St) : (Option ((Env × St) ⊕ (Res × St))) :=
  (bn (binO BinOp.lss 3 Bool.false (List.getD (e).t 40 D.any) (List.getD (e).t 39 D.any)) fun (x0 : D) =>
 (bn (D.bool? x0) fun (x1 : Bool) =>
 (ifb x1 (bn (indexAddrO 2 Bool.true (List.getD (e).t 38 D.any) (List.getD (e).t 40 D.any)) fun (x2 : D) =>
 (bn (Option.map (fun (x3 : D) => (x3, Av4)) (loadO Bool.true 2 x2 Av4)) fun (x3 : (D × St)) =>
 (bn (allocO [(D.int IntKind.i64 (0 : Int)), (D.int IntKind.u64 (0 : Int))] (x3).snd) fun (x4 : (D × St)) =>
 (bn (Option.map (fun (x5 : St) => ((D.tup []), x5)) (storeO Bool.true 2 (x4).fst (x3).fst (x4).snd)) fun (x5 : (D × St)) =>
 (bn (fieldAddrO 0 (x4).fst) fun (x6 : D) =>
 (bn (Option.map (fun (x7 : D) => (x7, (x5).snd)) (loadO Bool.false 1 x6 (x5).snd)) fun (x7 : (D × St)) =>
 (bn (convO (ConvK.int IntKind.u64) (x7).fst) fun (x8 : D) =>
 (bn (Option.map (fun (x9 : D) => (x9, (x7).snd)) (Option.map (D.sl Own.full 1) (sliceParts 1 Bool.false 0 [(0, x8)]))) fun (x9 : (D × St)) =>
 (bn (call 23 [(List.getD (e).t 5 D.any), (D.int IntKind.i64 (2 : Int)), (x9).fst] (x9).snd) fun (x10 : (Res × St)) =>
 (Res.elim (x10).fst (fun (x11 : D) => (bn (fieldAddrO 1 (x4).fst) fun (x12 : D) =>
 (bn (Option.map (fun (x13 : D) => (x13, (x10).snd)) (loadO Bool.false 1 x12 (x10).snd)) fun (x13 : (D × St)) =>
 (bn (Option.map (fun (x14 : D) => (x14, (x13).snd)) (Option.map (D.sl Own.full 1) (sliceParts 1 Bool.false 0 [(0, (x13).fst)]))) fun (x14 : (D × St)) =>
 (bn (call 23 [(List.getD (e).t 5 D.any), (D.int IntKind.i64 (8 : Int)), (x14).fst] (x14).snd) fun (x15 : (Res × St)) =>
 (Res.elim (x15).fst (fun (x16 : D) => (bn (binO BinOp.add 3 Bool.true (List.getD (e).t 40 D.any) (D.int IntKind.i64 (1 : Int))) fun (x17 : D) =>
 (guardP (Kept Av4 (x15).snd) (Option.some (Sum.inl ((Env.mk [D.any, (D.shut (List.length Av4) (List.getD (e).t 1 D.any)), D.any, D.any, D.any, (D.shut (List.length Av4) (List.getD (e).t 5 D.any)), D.any, D.any, D.any, D.any, D.any, D.any, D.any, D.any, D.any, D.any, D.any, D.any, D.any, D.any, D.any, D.any, D.any, D.any, D.any, D.any, D.any, D.any, D.any, D.any, D.any, D.any, D.any, D.any, D.any, D.any, D.any, D.any, (D.shut (List.length Av4) (List.getD (e).t 38 D.any)), (D.shut (List.length Av4) (List.getD (e).t 39 D.any)), (D.shut (List.length Av4) x17), D.any, D.any, D.any, D.any, D.any, D.any, D.any, D.any, D.any, D.any, D.any, D.any, D.any, D.any, D.any, D.any, D.any, D.any, D.any, D.any, D.any, D.any, D.any, D.any, D.any, D.any, D.any, D.any, D.any, D.any, D.any, D.any, D.any, D.any, D.any, D.any, D.any, D.any, D.any, D.any, D.any, D.any, D.any, D.any, D.any, D.any, D.any, D.any, D.any, D.any, D.any, D.any, D.any, D.any, D.any, D.any] (List.map (fun (x18 : (D × (List D))) => ((D.shut (List.length Av4) x18.1), (D.shutL (List.length Av4) x18.2))) (e).df)), (List.take (List.length Av4) (x15).snd))))))) (fun (x16 : D) => (Option.map (Sum.inr ) (bn (leavesD dcall (fun (x17 : St) => (Option.some (D.tup [(List.getD (e).t 2 D.any), (List.getD (e).t 3 D.any)]))) (e).df (Option.some x16) (x15).snd) fun (x17 : (Res × St)) =>
 (leaveD RetK.trunc A (x17).fst (x17).snd)))))))))) (fun (x11 : D) => (Option.map (Sum.inr ) (bn (leavesD dcall (fun (x12 : St) => (Option.some (D.tup [(List.getD (e).t 2 D.any), (List.getD (e).t 3 D.any)]))) (e).df (Option.some x11) (x10).snd) fun (x12 : (Res × St)) =>
 (leaveD RetK.trunc A (x12).fst (x12).snd))))))))))))))
 (Option.map (Sum.inr ) (bn (fieldAddrO 3 (List.getD (e).t 1 D.any)) fun (x2 : D) =>
 (bn (Option.map (fun (x3 : D) => (x3, Av4)) (loadO Bool.false 1 x2 Av4)) fun (x3 : (D × St)) =>
 (bn (lenSlO (x3).fst) fun (x4 : D) =>
 (bn (convO (ConvK.int IntKind.u64) x4) fun (x5 : D) =>
 (bn (Option.map (fun (x6 : D) => (x6, (x3).snd)) (Option.map (D.sl Own.full 1) (sliceParts 1 Bool.false 0 [(0, x5)]))) fun (x6 : (D × St)) =>
 (bn (call 23 [(List.getD (e).t 5 D.any), (D.int IntKind.i64 (2 : Int)), (x6).fst] (x6).snd) fun (x7 : (Res × St)) =>
 (Res.elim (x7).fst (fun (x8 : D) => (bn (fieldAddrO 3 (List.getD (e).t 1 D.any)) fun (x9 : D) =>
 (bn (Option.map (fun (x10 : D) => (x10, (x7).snd)) (loadO Bool.false 1 x9 (x7).snd)) fun (x10 : (D × St)) =>
 (bn (lenSlO (x10).fst) fun (x11 : D) =>
 (iterK (f18_s0 call dcall A) (Env.mk [D.any, D.any, D.any, D.any, D.any, (List.getD (e).t 5 D.any), D.any, D.any, D.any, D.any, D.any, D.any, D.any, D.any, D.any, D.any, D.any, D.any, D.any, D.any, D.any, D.any, D.any, D.any, D.any, D.any, D.any, D.any, D.any, D.any, D.any, D.any, D.any, D.any, D.any, D.any, D.any, D.any, D.any, D.any, D.any, D.any, D.any, D.any, D.any, D.any, D.any, D.any, D.any, D.any, D.any, D.any, D.any, D.any, D.any, D.any, D.any, D.any, D.any, D.any, D.any, D.any, D.any, D.any, (x10).fst, x11, (D.int IntKind.i64 (0 : Int)), D.any, D.any, D.any, D.any, D.any, D.any, D.any, D.any, D.any, D.any, D.any, D.any, D.any, D.any, D.any, D.any, D.any, D.any, D.any, D.any, D.any, D.any, D.any, D.any, D.any, D.any, D.any, D.any, D.any, D.any] (e).df) (x10).snd))))) (fun (x8 : D) => (bn (leavesD dcall (fun (x9 : St) => (Option.some (D.tup [(List.getD (e).t 2 D.any), (List.getD (e).t 3 D.any)]))) (e).df (Option.some x8) (x7).snd) fun (x9 : (Res × St)) =>
 (leaveD RetK.trunc A (x9).fst (x9).snd))))))))))))))
noncomputable def f18 (call : (FuncId → ((List D) → (St → ORes)))) (dcall : (D → ((List D) → ((Option D) → (St → (Option ((Option D) × St))))))) (a0 : D) (A : St) : (Option (Res × St)) :=
  (bn (boxO Bool.true a0 A) fun (x0 : (D × St)) =>
 (bn (Option.map (fun (x1 : D) => (x1, (x0).snd)) (loadO Bool.true 4 (x0).fst (x0).snd)) fun (x1 : (D × St)) =>
 (bn (call 20 [(x1).fst] (x1).snd) fun (x2 : (Res × St)) =>
 (Res.elim (x2).fst (fun (x3 : D) => (bn (binO BinOp.neq 3 Bool.true x3 (D.int IntKind.i64 (0 : Int))) fun (x4 : D) =>
 (bn (D.bool? x4) fun (x5 : Bool) =>
 (ifb x5 (leaveD RetK.trunc A (Res.ret (D.tup [(D.sl Own.full 0 []), x3])) (x2).snd)
 (bn (Option.map (fun (x6 : D) => (x6, (x2).snd)) (Option.map (D.sl Own.full 1) (sliceParts 1 Bool.false 0 [(0, (D.int IntKind.u8 (82 : Int)))]))) fun (x6 : (D × St)) =>
 (bn (tokO [(0, 1)] (x6).fst (x6).snd) fun (x7 : (D × St)) =>
 (bn (Option.map D.agg (Option.bind (layCells Bool.false 1 0 [(D.sl Own.full 0 [])] (x7).fst) (fun (x8 : (List D)) => (Option.some x8)))) fun (x8 : D) =>
 (bn (boxO Bool.true x8 (x7).snd) fun (x9 : (D × St)) =>
 (bn (fieldAddrO 0 (x0).fst) fun (x10 : D) =>
 (bn (Option.map (fun (x11 : D) => (x11, (x9).snd)) (loadO Bool.false 1 x10 (x9).snd)) fun (x11 : (D × St)) =>
 (bn (convO (ConvK.int IntKind.u64) (x11).fst) fun (x12 : D) =>
 (bn (Option.map (fun (x13 : D) => (x13, (x11).snd)) (Option.map (D.sl Own.full 1) (sliceParts 1 Bool.false 0 [(0, x12)]))) fun (x13 : (D × St)) =>
 (bn (call 23 [(x9).fst, (D.int IntKind.i64 (2 : Int)), (x13).fst] (x13).snd) fun (x14 : (Res × St)) =>
 (Res.elim (x14).fst (fun (x15 : D) => (bn (fieldAddrO 1 (x0).fst) fun (x16 : D) =>
 (bn (Option.map (fun (x17 : D) => (x17, (x14).snd)) (loadO Bool.false 1 x16 (x14).snd)) fun (x17 : (D × St)) =>
 (bn (convO (ConvK.int IntKind.u64) (x17).fst) fun (x18 : D) =>
 (bn (Option.map (fun (x19 : D) => (x19, (x17).snd)) (Option.map (D.sl Own.full 1) (sliceParts 1 Bool.false 0 [(0, x18)]))) fun (x19 : (D × St)) =>
 (bn (call 23 [(x9).fst, (D.int IntKind.i64 (4 : Int)), (x19).fst] (x19).snd) fun (x20 : (Res × St)) =>
 (Res.elim (x20).fst (fun (x21 : D) => (bn (fieldAddrO 2 (x0).fst) fun (x22 : D) =>
 (bn (Option.map (fun (x23 : D) => (x23, (x20).snd)) (loadO Bool.false 1 x22 (x20).snd)) fun (x23 : (D × St)) =>
 (bn (lenSlO (x23).fst) fun (x24 : D) =>
 (bn (convO (ConvK.int IntKind.u64) x24) fun (x25 : D) =>
 (bn (Option.map (fun (x26 : D) => (x26, (x23).snd)) (Option.map (D.sl Own.full 1) (sliceParts 1 Bool.false 0 [(0, x25)]))) fun (x26 : (D × St)) =>
 (bn (call 23 [(x9).fst, (D.int IntKind.i64 (2 : Int)), (x26).fst] (x26).snd) fun (x27 : (Res × St)) =>
 (Res.elim (x27).fst (fun (x28 : D) => (bn (fieldAddrO 2 (x0).fst) fun (x29 : D) =>
 (bn (Option.map (fun (x30 : D) => (x30, (x27).snd)) (loadO Bool.false 1 x29 (x27).snd)) fun (x30 : (D × St)) =>
 (bn (lenSlO (x30).fst) fun (x31 : D) =>
 (iterK (f18_s1 call dcall A) (Env.mk [D.any, (x0).fst, D.any, D.any, D.any, (x9).fst, D.any, D.any, D.any, D.any, D.any, D.any, D.any, D.any, D.any, D.any, D.any, D.any, D.any, D.any, D.any, D.any, D.any, D.any, D.any, D.any, D.any, D.any, D.any, D.any, D.any, D.any, D.any, D.any, D.any, D.any, D.any, D.any, (x30).fst, x31, (D.int IntKind.i64 (0 : Int)), D.any, D.any, D.any, D.any, D.any, D.any, D.any, D.any, D.any, D.any, D.any, D.any, D.any, D.any, D.any, D.any, D.any, D.any, D.any, D.any, D.any, D.any, D.any, D.any, D.any, D.any, D.any, D.any, D.any, D.any, D.any, D.any, D.any, D.any, D.any, D.any, D.any, D.any, D.any, D.any, D.any, D.any, D.any, D.any, D.any, D.any, D.any, D.any, D.any, D.any, D.any, D.any, D.any, D.any, D.any, D.any] []) (x30).snd))))) (fun (x28 : D) => (leaveD RetK.trunc A (Res.pan x28) (x27).snd)))))))))) (fun (x21 : D) => (leaveD RetK.trunc A (Res.pan x21) (x20).snd))))))))) (fun (x15 : D) => (leaveD RetK.trunc A (Res.pan x15) (x14).snd)))))))))))))))) (fun (x3 : D) => (leaveD RetK.trunc A (Res.pan x3) (x2).snd))))))
theorem r18 (a0 : D) (A : St) : Run Try.prog codecH 18 [a0] A = f18 (Run Try.prog codecH) (Dcall Try.prog codecH) a0 A := by
  rw [Run_eqK (J := k18)]
  kernel_rfl
noncomputable def f20_s0 (call : (FuncId → ((List D) → (St → ORes)))) (dcall : (D → ((List D) → ((Option D) → (St → (Option ((Option D) × St))))))) (A : St) (e : Env) (Av4 : St) : (Option ((Env × St) ⊕ (Res × St))) :=
  (bn (binO BinOp.lss 3 Bool.false (List.getD (e).t 57 D.any) (List.getD (e).t 56 D.any)) fun (x0 : D) =>
 (bn (D.bool? x0) fun (x1 : Bool) =>
 (ifb x1 (bn (indexAddrO 2 Bool.true (List.getD (e).t 55 D.any) (List.getD (e).t 57 D.any)) fun (x2 : D) =>
 (bn (Option.map (fun (x3 : D) => (x3, Av4)) (loadO Bool.true 2 x2 Av4)) fun (x3 : (D × St)) =>
 (bn (allocO [(D.int IntKind.u64 (0 : Int)), (D.sl Own.full 0 [])] (x3).snd) fun (x4 : (D × St)) =>
 (bn (Option.map (fun (x5 : St) => ((D.tup []), x5)) (storeO Bool.true 2 (x4).fst (x3).fst (x4).snd)) fun (x5 : (D × St)) =>
 (bn (fieldAddrO 1 (x4).fst) fun (x6 : D) =>
 (bn (Option.map (fun (x7 : D) => (x7, (x5).snd)) (loadO Bool.false 1 x6 (x5).snd)) fun (x7 : (D × St)) =>
 (bn (lenSlO (x7).fst) fun (x8 : D) =>
 (bn (binO BinOp.eql 3 Bool.true x8 (D.int IntKind.i64 (0 : Int))) fun (x9 : D) =>
 (bn (D.bool? x9) fun (x10 : Bool) =>
 (ifb x10 (Option.map (Sum.inr ) (bn (leavesD dcall (fun (x11 : St) => (Option.some (D.int IntKind.i64 (40 : Int)))) (e).df none (x7).snd) fun (x11 : (Res × St)) =>
 (leaveD RetK.trunc A (x11).fst (x11).snd)))
 (bn (fieldAddrO 1 (x4).fst) fun (x11 : D) =>
 (bn (Option.map (fun (x12 : D) => (x12, (x7).snd)) (loadO Bool.false 1 x11 (x7).snd)) fun (x12 : (D × St)) =>
 (bn (lenSlO (x12).fst) fun (x13 : D) =>
 (bn (binO BinOp.add 3 Bool.true (D.int IntKind.i64 (12 : Int)) x13) fun (x14 : D) =>
 (bn (binO BinOp.add 3 Bool.false (List.getD (e).t 6 D.any) x14) fun (x15 : D) =>
 (bn (binO BinOp.add 3 Bool.true (List.getD (e).t 57 D.any) (D.int IntKind.i64 (1 : Int))) fun (x16 : D) =>
 (guardP (Kept Av4 (x12).snd) (Option.some (Sum.inl ((Env.mk [D.any, D.any, D.any, D.any, D.any, D.any, (D.shut (List.length Av4) x15), D.any, D.any, D.any, D.any, D.any, D.any, D.any, D.any, D.any, D.any, D.any, D.any, D.any, D.any, D.any, D.any, D.any, D.any, D.any, D.any, D.any, D.any, D.any, D.any, D.any, D.any, D.any, D.any, D.any, D.any, D.any, D.any, D.any, D.any, D.any, D.any, D.any, D.any, D.any, D.any, D.any, D.any, D.any, D.any, D.any, D.any, D.any, D.any, (D.shut (List.length Av4) (List.getD (e).t 55 D.any)), (D.shut (List.length Av4) (List.getD (e).t 56 D.any)), (D.shut (List.length Av4) x16), D.any, D.any, D.any, D.any, D.any, D.any, D.any, D.any, D.any, D.any, D.any, D.any, D.any, D.any, D.any, D.any] (List.map (fun (x17 : (D × (List D))) => ((D.shut (List.length Av4) x17.1), (D.shutL (List.length Av4) x17.2))) (e).df)), (List.take (List.length Av4) (x12).snd)))))))))))))))))))))
 (Option.map (Sum.inr ) (bn (binO BinOp.gtr 3 Bool.true (List.getD (e).t 6 D.any) (D.int IntKind.i64 (1048576 : Int))) fun (x2 : D) =>
 (bn (D.bool? x2) fun (x3 : Bool) =>
 (ifb x3 (bn (leavesD dcall (fun (x4 : St) => (Option.some (D.int IntKind.i64 (2 : Int)))) (e).df none Av4) fun (x4 : (Res × St)) =>
 (leaveD RetK.trunc A (x4).fst (x4).snd))
 (bn (leavesD dcall (fun (x4 : St) => (Option.some (D.int IntKind.i64 (0 : Int)))) (e).df none Av4) fun (x4 : (Res × St)) =>
 (leaveD RetK.trunc A (x4).fst (x4).snd)))))))))
noncomputable def f20_s1 (call : (FuncId → ((List D) → (St → ORes)))) (dcall : (D → ((List D) → ((Option D) → (St → (Option ((Option D) × St))))))) (A : St) (e : Env) (Av4 : St) : (Option ((Env × St) ⊕ (Res × St))) :=
  (bn (binO BinOp.lss 3 Bool.false (List.getD (e).t 41 D.any) (List.getD (e).t 40 D.any)) fun (x0 : D) =>
 (bn (D.bool? x0) fun (x1 : Bool) =>
 (ifb x1 (bn (indexAddrO 2 Bool.true (List.getD (e).t 39 D.any) (List.getD (e).t 41 D.any)) fun (x2 : D) =>
 (bn (Option.map (fun (x3 : D) => (x3, Av4)) (loadO Bool.true 2 x2 Av4)) fun (x3 : (D × St)) =>
 (bn (allocO [(D.int IntKind.u64 (0 : Int)), (D.sl Own.full 0 [])] (x3).snd) fun (x4 : (D × St)) =>
 (bn (Option.map (fun (x5 : St) => ((D.tup []), x5)) (storeO Bool.true 2 (x4).fst (x3).fst (x4).snd)) fun (x5 : (D × St)) =>
 (bn (fieldAddrO 0 (x4).fst) fun (x6 : D) =>
 (bn (Option.map (fun (x7 : D) => (x7, (x5).snd)) (loadO Bool.false 1 x6 (x5).snd)) fun (x7 : (D × St)) =>
 (bn (binO BinOp.eql 3 Bool.true (x7).fst (D.int IntKind.u64 (0 : Int))) fun (x8 : D) =>
 (bn (D.bool? x8) fun (x9 : Bool) =>
 (ifb x9 (Option.map (Sum.inr ) (bn (leavesD dcall (fun (x10 : St) => (Option.some (D.int IntKind.i64 (80 : Int)))) (e).df none (x7).snd) fun (x10 : (Res × St)) =>
 (leaveD RetK.trunc A (x10).fst (x10).snd)))
 (bn (binO BinOp.add 3 Bool.true (List.getD (e).t 41 D.any) (D.int IntKind.i64 (1 : Int))) fun (x10 : D) =>
 (guardP (Kept Av4 (x7).snd) (Option.some (Sum.inl ((Env.mk [D.any, (D.shut (List.length Av4) (List.getD (e).t 1 D.any)), D.any, D.any, D.any, D.any, D.any, D.any, D.any, D.any, D.any, D.any, D.any, D.any, D.any, D.any, D.any, D.any, D.any, D.any, D.any, D.any, D.any, D.any, D.any, D.any, D.any, D.any, D.any, D.any, D.any, D.any, D.any, D.any, D.any, D.any, D.any, D.any, D.any, (D.shut (List.length Av4) (List.getD (e).t 39 D.any)), (D.shut (List.length Av4) (List.getD (e).t 40 D.any)), (D.shut (List.length Av4) x10), D.any, D.any, D.any, D.any, D.any, D.any, D.any, D.any, D.any, D.any, D.any, D.any, D.any, D.any, D.any, D.any, D.any, D.any, D.any, D.any, D.any, D.any, D.any, D.any, D.any, D.any, D.any, D.any, D.any, D.any, D.any, D.any] (List.map (fun (x11 : (D × (List D))) => ((D.shut (List.length Av4) x11.1), (D.shutL (List.length Av4) x11.2))) (e).df)), (List.take (List.length Av4) (x7).snd)))))))))))))))
 (Option.map (Sum.inr ) (bn (fieldAddrO 2 (List.getD (e).t 1 D.any)) fun (x2 : D) =>
 (bn (Option.map (fun (x3 : D) => (x3, Av4)) (loadO Bool.false 1 x2 Av4)) fun (x3 : (D × St)) =>
 (bn (lenSlO (x3).fst) fun (x4 : D) =>
 (bn (binO BinOp.mul 3 Bool.true (D.int IntKind.i64 (10 : Int)) x4) fun (x5 : D) =>
 (bn (binO BinOp.add 3 Bool.true (D.int IntKind.i64 (11 : Int)) x5) fun (x6 : D) =>
 (bn (fieldAddrO 3 (List.getD (e).t 1 D.any)) fun (x7 : D) =>
 (bn (Option.map (fun (x8 : D) => (x8, (x3).snd)) (loadO Bool.false 1 x7 (x3).snd)) fun (x8 : (D × St)) =>
 (bn (lenSlO (x8).fst) fun (x9 : D) =>
 (iterK (f20_s0 call dcall A) (Env.mk [D.any, D.any, D.any, D.any, D.any, D.any, x6, D.any, D.any, D.any, D.any, D.any, D.any, D.any, D.any, D.any, D.any, D.any, D.any, D.any, D.any, D.any, D.any, D.any, D.any, D.any, D.any, D.any, D.any, D.any, D.any, D.any, D.any, D.any, D.any, D.any, D.any, D.any, D.any, D.any, D.any, D.any, D.any, D.any, D.any, D.any, D.any, D.any, D.any, D.any, D.any, D.any, D.any, D.any, D.any, (x8).fst, x9, (D.int IntKind.i64 (0 : Int)), D.any, D.any, D.any, D.any, D.any, D.any, D.any, D.any, D.any, D.any, D.any, D.any, D.any, D.any, D.any, D.any] (e).df) (x8).snd)))))))))))))
noncomputable def f20 (call : (FuncId → ((List D) → (St → ORes)))) (dcall : (D → ((List D) → ((Option D) → (St → (Option ((Option D) × St))))))) (a0 : D) (A : St) : (Option (Res × St)) :=
  (bn (boxO Bool.true a0 A) fun (x0 : (D × St)) =>
 (bn (fieldAddrO 0 (x0).fst) fun (x1 : D) =>
 (bn (Option.map (fun (x2 : D) => (x2, (x0).snd)) (loadO Bool.false 1 x1 (x0).snd)) fun (x2 : (D × St)) =>
 (bn (binO BinOp.lss 3 Bool.true (x2).fst (D.int IntKind.i64 (0 : Int))) fun (x3 : D) =>
 (bn (guardB Bool.false x3) fun (x4 : Bool) =>
 (bn (ifb x4 (fieldAddrO 0 (x0).fst)
 (Option.some (D.tup []))) fun (x5 : D) =>
 (bn (guardB Bool.false x3) fun (x6 : Bool) =>
 (bn (ifb x6 (Option.map (fun (x7 : D) => (x7, (x2).snd)) (loadO Bool.false 1 x5 (x2).snd))
 (Option.some ((D.tup []), (x2).snd))) fun (x7 : (D × St)) =>
 (bn (guardB Bool.false x3) fun (x8 : Bool) =>
 (bn (ifb x8 (binO BinOp.geq 3 Bool.true (x7).fst (D.int IntKind.i64 (64 : Int)))
 (Option.some (D.tup []))) fun (x9 : D) =>
 (bn (Option.map (fun (x10 : Bool) => (ifb x10 (D.bool Bool.true)
 x9)) (D.bool? x3)) fun (x10 : D) =>
 (bn (guardB Bool.false x10) fun (x11 : Bool) =>
 (bn (ifb x11 (fieldAddrO 1 (x0).fst)
 (Option.some (D.tup []))) fun (x12 : D) =>
 (bn (guardB Bool.false x10) fun (x13 : Bool) =>
 (bn (ifb x13 (Option.map (fun (x14 : D) => (x14, (x7).snd)) (loadO Bool.false 1 x12 (x7).snd))
 (Option.some ((D.tup []), (x7).snd))) fun (x14 : (D × St)) =>
 (bn (guardB Bool.false x10) fun (x15 : Bool) =>
 (bn (ifb x15 (binO BinOp.lss 3 Bool.true (x14).fst (D.int IntKind.i64 (0 : Int)))
 (Option.some (D.tup []))) fun (x16 : D) =>
 (bn (Option.map (fun (x17 : Bool) => (ifb x17 (D.bool Bool.true)
 x16)) (D.bool? x10)) fun (x17 : D) =>
 (bn (guardB Bool.false x17) fun (x18 : Bool) =>
 (bn (ifb x18 (fieldAddrO 1 (x0).fst)
 (Option.some (D.tup []))) fun (x19 : D) =>
 (bn (guardB Bool.false x17) fun (x20 : Bool) =>
 (bn (ifb x20 (Option.map (fun (x21 : D) => (x21, (x14).snd)) (loadO Bool.false 1 x19 (x14).snd))
 (Option.some ((D.tup []), (x14).snd))) fun (x21 : (D × St)) =>
 (bn (guardB Bool.false x17) fun (x22 : Bool) =>
 (bn (ifb x22 (binO BinOp.geq 3 Bool.true (x21).fst (D.int IntKind.i64 (16384 : Int)))
 (Option.some (D.tup []))) fun (x23 : D) =>
 (bn (Option.map (fun (x24 : Bool) => (ifb x24 (D.bool Bool.true)
 x23)) (D.bool? x17)) fun (x24 : D) =>
 (bn (D.bool? x24) fun (x25 : Bool) =>
 (ifb x25 (leaveD RetK.trunc A (Res.ret (D.int IntKind.i64 (1 : Int))) (x21).snd)
 (bn (fieldAddrO 2 (x0).fst) fun (x26 : D) =>
 (bn (Option.map (fun (x27 : D) => (x27, (x21).snd)) (loadO Bool.false 1 x26 (x21).snd)) fun (x27 : (D × St)) =>
 (bn (Option.map (fun (x28 : D) => (x28, (x27).snd)) (Option.map (D.sl Own.full 1) (sliceParts 1 Bool.false 0 [(0, (x27).fst)]))) fun (x28 : (D × St)) =>
 (bn (call 39 [(x28).fst] (x28).snd) fun (x29 : (Res × St)) =>
 (Res.elim (x29).fst (fun (x30 : D) => (bn (binO BinOp.neq 3 Bool.true x30 (D.int IntKind.i64 (0 : Int))) fun (x31 : D) =>
 (bn (D.bool? x31) fun (x32 : Bool) =>
 (ifb x32 (leaveD RetK.trunc A (Res.ret x30) (x29).snd)
 (bn (fieldAddrO 3 (x0).fst) fun (x33 : D) =>
 (bn (Option.map (fun (x34 : D) => (x34, (x29).snd)) (loadO Bool.false 1 x33 (x29).snd)) fun (x34 : (D × St)) =>
 (bn (lenSlO (x34).fst) fun (x35 : D) =>
 (bn (binO BinOp.gtr 3 Bool.true x35 (D.int IntKind.i64 (256 : Int))) fun (x36 : D) =>
 (bn (D.bool? x36) fun (x37 : Bool) =>
 (ifb x37 (leaveD RetK.trunc A (Res.ret (D.int IntKind.i64 (3 : Int))) (x34).snd)
 (bn (fieldAddrO 3 (x0).fst) fun (x38 : D) =>
 (bn (Option.map (fun (x39 : D) => (x39, (x34).snd)) (loadO Bool.false 1 x38 (x34).snd)) fun (x39 : (D × St)) =>
 (bn (lenSlO (x39).fst) fun (x40 : D) =>
 (iterK (f20_s1 call dcall A) (Env.mk [D.any, (x0).fst, D.any, D.any, D.any, D.any, D.any, D.any, D.any, D.any, D.any, D.any, D.any, D.any, D.any, D.any, D.any, D.any, D.any, D.any, D.any, D.any, D.any, D.any, D.any, D.any, D.any, D.any, D.any, D.any, D.any, D.any, D.any, D.any, D.any, D.any, D.any, D.any, D.any, (x39).fst, x40, (D.int IntKind.i64 (0 : Int)), D.any, D.any, D.any, D.any, D.any, D.any, D.any, D.any, D.any, D.any, D.any, D.any, D.any, D.any, D.any, D.any, D.any, D.any, D.any, D.any, D.any, D.any, D.any, D.any, D.any, D.any, D.any, D.any, D.any, D.any, D.any, D.any] []) (x39).snd)))))))))))))) (fun (x30 : D) => (leaveD RetK.trunc A (Res.pan x30) (x29).snd))))))))))))))))))))))))))))))))))
theorem r20 (a0 : D) (A : St) : Run Try.prog codecH 20 [a0] A = f20 (Run Try.prog codecH) (Dcall Try.prog codecH) a0 A := by
  rw [Run_eqK (J := k20)]
  kernel_rfl
noncomputable def f39_s0 (call : (FuncId → ((List D) → (St → ORes)))) (dcall : (D → ((List D) → ((Option D) → (St → (Option ((Option D) × St))))))) (A : St) (e : Env) (Av4 : St) : (Option ((Env × St) ⊕ (Res × St))) :=
  (bn (binO BinOp.lss 3 Bool.false (List.getD (e).t 7 D.any) (List.getD (e).t 6 D.any)) fun (x0 : D) =>
 (bn (D.bool? x0) fun (x1 : Bool) =>
 (ifb x1 (bn (indexAddrO 1 Bool.false (List.getD (e).t 5 D.any) (List.getD (e).t 7 D.any)) fun (x2 : D) =>
 (bn (Option.map (fun (x3 : D) => (x3, Av4)) (loadO Bool.false 1 x2 Av4)) fun (x3 : (D × St)) =>
 (bn (call 46 [(x3).fst, (D.fn (Fn.func 47) [] [])] (x3).snd) fun (x4 : (Res × St)) =>
 (Res.elim (x4).fst (fun (x5 : D) => (bn (unD UnOp.not x5) fun (x6 : D) =>
 (bn (guardB Bool.false x6) fun (x7 : Bool) =>
 (bn (ifb x7 (Option.some (x3).fst)
 (Option.some (D.tup []))) fun (x8 : D) =>
 (bn (guardB Bool.false x6) fun (x9 : Bool) =>
 (bn (ifb x9 (call 48 [x8, (D.fn (Fn.func 49) [] [])] (x4).snd)
 (Option.some ((Res.ret (D.tup [])), (x4).snd))) fun (x10 : (Res × St)) =>
 (Res.elim (x10).fst (fun (x11 : D) => (bn (Option.map (fun (x12 : Bool) => (ifb x12 (D.bool Bool.true)
 x11)) (D.bool? x6)) fun (x12 : D) =>
 (bn (D.bool? x12) fun (x13 : Bool) =>
 (ifb x13 (Option.map (Sum.inr ) (bn (leavesD dcall (fun (x14 : St) => (Option.some (D.int IntKind.i64 (160 : Int)))) (e).df none (x10).snd) fun (x14 : (Res × St)) =>
 (leaveD RetK.trunc A (x14).fst (x14).snd)))
 (bn (binO BinOp.add 3 Bool.true (List.getD (e).t 7 D.any) (D.int IntKind.i64 (1 : Int))) fun (x14 : D) =>
 (guardP (Kept Av4 (x10).snd) (Option.some (Sum.inl ((Env.mk [D.any, D.any, D.any, D.any, D.any, (D.shut (List.length Av4) (List.getD (e).t 5 D.any)), (D.shut (List.length Av4) (List.getD (e).t 6 D.any)), (D.shut (List.length Av4) x14), D.any, D.any, D.any, D.any, D.any, D.any, D.any, D.any, D.any, D.any, D.any] (List.map (fun (x15 : (D × (List D))) => ((D.shut (List.length Av4) x15.1), (D.shutL (List.length Av4) x15.2))) (e).df)), (List.take (List.length Av4) (x10).snd)))))))))) (fun (x11 : D) => (Option.map (Sum.inr ) (bn (leavesD dcall (fun (x12 : St) => (Option.some (List.getD (e).t 2 D.any))) (e).df (Option.some x11) (x10).snd) fun (x12 : (Res × St)) =>
 (leaveD RetK.trunc A (x12).fst (x12).snd))))))))))) (fun (x5 : D) => (Option.map (Sum.inr ) (bn (leavesD dcall (fun (x6 : St) => (Option.some (List.getD (e).t 2 D.any))) (e).df (Option.some x5) (x4).snd) fun (x6 : (Res × St)) =>
 (leaveD RetK.trunc A (x6).fst (x6).snd))))))))
 (Option.map (Sum.inr ) (bn (leavesD dcall (fun (x2 : St) => (Option.some (D.int IntKind.i64 (0 : Int)))) (e).df none Av4) fun (x2 : (Res × St)) =>
 (leaveD RetK.trunc A (x2).fst (x2).snd))))))
noncomputable def f39 (call : (FuncId → ((List D) → (St → ORes)))) (dcall : (D → ((List D) → ((Option D) → (St → (Option ((Option D) × St))))))) (a0 : D) (A : St) : (Option (Res × St)) :=
  (bn (lenSlO a0) fun (x0 : D) =>
 (iterK (f39_s0 call dcall A) (Env.mk [D.any, D.any, D.any, D.any, D.any, a0, x0, (D.int IntKind.i64 (0 : Int)), D.any, D.any, D.any, D.any, D.any, D.any, D.any, D.any, D.any, D.any, D.any] []) A))
theorem r39 (a0 : D) (A : St) : Run Try.prog codecH 39 [a0] A = f39 (Run Try.prog codecH) (Dcall Try.prog codecH) a0 A := by
  rw [Run_eqK (J := k39)]
  kernel_rfl
noncomputable def f46_s0 (call : (FuncId → ((List D) → (St → ORes)))) (dcall : (D → ((List D) → ((Option D) → (St → (Option ((Option D) × St))))))) (A : St) (e : Env) (Av4 : St) : (Option ((Env × St) ⊕ (Res × St))) :=
  (bn (lenSlO (List.getD (e).t 0 D.any)) fun (x0 : D) =>
 (bn (binO BinOp.lss 3 Bool.false (List.getD (e).t 5 D.any) x0) fun (x1 : D) =>
 (bn (D.bool? x1) fun (x2 : Bool) =>
 (ifb x2 (bn (binO BinOp.sub 3 Bool.true (List.getD (e).t 5 D.any) (D.int IntKind.i64 (1 : Int))) fun (x3 : D) =>
 (bn (indexAddrO 2 Bool.true (List.getD (e).t 0 D.any) x3) fun (x4 : D) =>
 (bn (Option.map (fun (x5 : (D × St)) => (x5).fst) (Option.map (fun (x5 : D) => (x5, Av4)) (loadO Bool.true 2 x4 Av4))) fun (x5 : D) =>
 (bn (applyD call (List.getD (e).t 1 D.any) [x5] Av4) fun (x6 : (Res × St)) =>
 (Res.elim (x6).fst (fun (x7 : D) => (bn (indexAddrO 2 Bool.true (List.getD (e).t 0 D.any) (List.getD (e).t 5 D.any)) fun (x8 : D) =>
 (bn (Option.map (fun (x9 : (D × St)) => (x9).fst) (Option.map (fun (x9 : D) => (x9, (x6).snd)) (loadO Bool.true 2 x8 (x6).snd))) fun (x9 : D) =>
 (bn (applyD call (List.getD (e).t 1 D.any) [x9] (x6).snd) fun (x10 : (Res × St)) =>
 (Res.elim (x10).fst (fun (x11 : D) => (bn (binO BinOp.geq 3 Bool.false x7 x11) fun (x12 : D) =>
 (guardP ((sameAd x8 Av4 (x6).snd) ∧ True) (bn (D.bool? x12) fun (x13 : Bool) =>
 (ifb x13 (Option.map (Sum.inr ) (bn (leavesD dcall (fun (x14 : St) => (Option.some (D.bool Bool.false))) (e).df none (x10).snd) fun (x14 : (Res × St)) =>
 (leaveD RetK.trunc A (x14).fst (x14).snd)))
 (bn (binO BinOp.add 3 Bool.true (List.getD (e).t 5 D.any) (D.int IntKind.i64 (1 : Int))) fun (x14 : D) =>
 (guardP (Kept Av4 (x10).snd) (Option.some (Sum.inl ((Env.mk [(D.shut (List.length Av4) (List.getD (e).t 0 D.any)), (D.shut (List.length Av4) (List.getD (e).t 1 D.any)), D.any, D.any, D.any, (D.shut (List.length Av4) x14), D.any, D.any, D.any, D.any, D.any, D.any, D.any, D.any, D.any, D.any, D.any, D.any, D.any, D.any, D.any, D.any, D.any, D.any, D.any, D.any] (List.map (fun (x15 : (D × (List D))) => ((D.shut (List.length Av4) x15.1), (D.shutL (List.length Av4) x15.2))) (e).df)), (List.take (List.length Av4) (x10).snd))))))))))) (fun (x11 : D) => (guardP ((sameAd x8 Av4 (x6).snd) ∧ True) (Option.map (Sum.inr ) (bn (leavesD dcall (fun (x12 : St) => (Option.some (List.getD (e).t 4 D.any))) (e).df (Option.some x11) (x10).snd) fun (x12 : (Res × St)) =>
 (leaveD RetK.trunc A (x12).fst (x12).snd)))))))))) (fun (x7 : D) => none))))))
 (Option.map (Sum.inr ) (bn (leavesD dcall (fun (x3 : St) => (Option.some (D.bool Bool.true))) (e).df none Av4) fun (x3 : (Res × St)) =>
 (leaveD RetK.trunc A (x3).fst (x3).snd)))))))
noncomputable def f46 (call : (FuncId → ((List D) → (St → ORes)))) (dcall : (D → ((List D) → ((Option D) → (St → (Option ((Option D) × St))))))) (a0 : D) (a1 : D) (A : St) : (Option (Res × St)) :=
  (iterK (f46_s0 call dcall A) (Env.mk [a0, a1, D.any, D.any, D.any, (D.int IntKind.i64 (1 : Int)), D.any, D.any, D.any, D.any, D.any, D.any, D.any, D.any, D.any, D.any, D.any, D.any, D.any, D.any, D.any, D.any, D.any, D.any, D.any, D.any] []) A)
theorem r46 (a0 a1 : D) (A : St) : Run Try.prog codecH 46 [a0, a1] A = f46 (Run Try.prog codecH) (Dcall Try.prog codecH) a0 a1 A := by
  rw [Run_eqK (J := k46)]
  kernel_rfl
noncomputable def f47 (call : (FuncId → ((List D) → (St → ORes)))) (dcall : (D → ((List D) → ((Option D) → (St → (Option ((Option D) × St))))))) (a0 : D) (A : St) : (Option (Res × St)) :=
  (bn (boxO Bool.true a0 A) fun (x0 : (D × St)) =>
 (bn (fieldAddrO 0 (x0).fst) fun (x1 : D) =>
 (bn (Option.map (fun (x2 : D) => (x2, (x0).snd)) (loadO Bool.false 1 x1 (x0).snd)) fun (x2 : (D × St)) =>
 (leaveD RetK.trunc A (Res.ret (x2).fst) (x2).snd))))
theorem r47 (a0 : D) (A : St) : Run Try.prog codecH 47 [a0] A = f47 (Run Try.prog codecH) (Dcall Try.prog codecH) a0 A := by
  rw [Run_eqK (J := k47)]
  kernel_rfl
noncomputable def f48 (call : (FuncId → ((List D) → (St → ORes)))) (dcall : (D → ((List D) → ((Option D) → (St → (Option ((Option D) × St))))))) (a0 : D) (a1 : D) (A : St) : (Option (Res × St)) :=
  (bn (call 52 [a0, a1] A) fun (x0 : (Res × St)) =>
 (Res.elim (x0).fst (fun (x1 : D) => (bn (binO BinOp.geq 3 Bool.true x1 (D.int IntKind.i64 (0 : Int))) fun (x2 : D) =>
 (leaveD RetK.trunc A (Res.ret x2) (x0).snd))) (fun (x1 : D) => (leaveD RetK.trunc A (Res.pan x1) (x0).snd))))
theorem r48 (a0 a1 : D) (A : St) : Run Try.prog codecH 48 [a0, a1] A = f48 (Run Try.prog codecH) (Dcall Try.prog codecH) a0 a1 A := by
  rw [Run_eqK (J := k48)]
  kernel_rfl
noncomputable def f49 (call : (FuncId → ((List D) → (St → ORes)))) (dcall : (D → ((List D) → ((Option D) → (St → (Option ((Option D) × St))))))) (a0 : D) (A : St) : (Option (Res × St)) :=
  (bn (boxO Bool.true a0 A) fun (x0 : (D × St)) =>
 (bn (fieldAddrO 0 (x0).fst) fun (x1 : D) =>
 (bn (Option.map (fun (x2 : D) => (x2, (x0).snd)) (loadO Bool.false 1 x1 (x0).snd)) fun (x2 : (D × St)) =>
 (bn (call 50 [(x2).fst] (x2).snd) fun (x3 : (Res × St)) =>
 (Res.elim (x3).fst (fun (x4 : D) => (bn (unD UnOp.not x4) fun (x5 : D) =>
 (leaveD RetK.trunc A (Res.ret x5) (x3).snd))) (fun (x4 : D) => (leaveD RetK.trunc A (Res.pan x4) (x3).snd)))))))
theorem r49 (a0 : D) (A : St) : Run Try.prog codecH 49 [a0] A = f49 (Run Try.prog codecH) (Dcall Try.prog codecH) a0 A := by
  rw [Run_eqK (J := k49)]
  kernel_rfl
noncomputable def f50 (call : (FuncId → ((List D) → (St → ORes)))) (dcall : (D → ((List D) → ((Option D) → (St → (Option ((Option D) × St))))))) (a0 : D) (A : St) : (Option (Res × St)) :=
  (bn (binO BinOp.geq 3 Bool.true a0 (D.int IntKind.i64 (0 : Int))) fun (x0 : D) =>
 (bn (guardB Bool.true x0) fun (x1 : Bool) =>
 (bn (ifb x1 (Option.some a0)
 (Option.some (D.tup []))) fun (x2 : D) =>
 (bn (guardB Bool.true x0) fun (x3 : Bool) =>
 (bn (ifb x3 (binO BinOp.lss 3 Bool.true x2 (D.int IntKind.i64 (256 : Int)))
 (Option.some (D.tup []))) fun (x4 : D) =>
 (bn (Option.map (fun (x5 : Bool) => (ifb x5 x4
 (D.bool Bool.false))) (D.bool? x0)) fun (x5 : D) =>
 (leaveD RetK.trunc A (Res.ret x5) A)))))))
theorem r50 (a0 : D) (A : St) : Run Try.prog codecH 50 [a0] A = f50 (Run Try.prog codecH) (Dcall Try.prog codecH) a0 A := by
  rw [Run_eqK (J := k50)]
  kernel_rfl
noncomputable def f52_s0 (call : (FuncId → ((List D) → (St → ORes)))) (dcall : (D → ((List D) → ((Option D) → (St → (Option ((Option D) × St))))))) (A : St) (e : Env) (Av4 : St) : (Option ((Env × St) ⊕ (Res × St))) :=
  (bn (binO BinOp.lss 3 Bool.false (List.getD (e).t 8 D.any) (List.getD (e).t 7 D.any)) fun (x0 : D) =>
 (bn (D.bool? x0) fun (x1 : Bool) =>
 (ifb x1 (bn (indexAddrO 2 Bool.true (List.getD (e).t 0 D.any) (List.getD (e).t 8 D.any)) fun (x2 : D) =>
 (bn (Option.map (fun (x3 : D) => (x3, Av4)) (loadO Bool.true 2 x2 Av4)) fun (x3 : (D × St)) =>
 (bn (applyD call (List.getD (e).t 1 D.any) [(x3).fst] (x3).snd) fun (x4 : (Res × St)) =>
 (Res.elim (x4).fst (fun (x5 : D) => (bn (D.bool? x5) fun (x6 : Bool) =>
 (ifb x6 (Option.map (Sum.inr ) (bn (leavesD dcall (fun (x7 : St) => (Option.some (List.getD (e).t 8 D.any))) (e).df none (x4).snd) fun (x7 : (Res × St)) =>
 (leaveD RetK.trunc A (x7).fst (x7).snd)))
 (bn (binO BinOp.add 3 Bool.true (List.getD (e).t 8 D.any) (D.int IntKind.i64 (1 : Int))) fun (x7 : D) =>
 (guardP (Kept Av4 (x4).snd) (Option.some (Sum.inl ((Env.mk [(D.shut (List.length Av4) (List.getD (e).t 0 D.any)), (D.shut (List.length Av4) (List.getD (e).t 1 D.any)), D.any, D.any, D.any, D.any, D.any, (D.shut (List.length Av4) (List.getD (e).t 7 D.any)), (D.shut (List.length Av4) x7), D.any, D.any, D.any, D.any, D.any, D.any, D.any, D.any, D.any, D.any] (List.map (fun (x8 : (D × (List D))) => ((D.shut (List.length Av4) x8.1), (D.shutL (List.length Av4) x8.2))) (e).df)), (List.take (List.length Av4) (x4).snd))))))))) (fun (x5 : D) => (Option.map (Sum.inr ) (bn (leavesD dcall (fun (x6 : St) => (Option.some (List.getD (e).t 4 D.any))) (e).df (Option.some x5) (x4).snd) fun (x6 : (Res × St)) =>
 (leaveD RetK.trunc A (x6).fst (x6).snd))))))))
 (Option.map (Sum.inr ) (bn (leavesD dcall (fun (x2 : St) => (Option.some (D.int IntKind.i64 (-1 : Int)))) (e).df none Av4) fun (x2 : (Res × St)) =>
 (leaveD RetK.trunc A (x2).fst (x2).snd))))))
noncomputable def f52 (call : (FuncId → ((List D) → (St → ORes)))) (dcall : (D → ((List D) → ((Option D) → (St → (Option ((Option D) × St))))))) (a0 : D) (a1 : D) (A : St) : (Option (Res × St)) :=
  (bn (lenSlO a0) fun (x0 : D) =>
 (iterK (f52_s0 call dcall A) (Env.mk [a0, a1, D.any, D.any, D.any, D.any, D.any, x0, (D.int IntKind.i64 (0 : Int)), D.any, D.any, D.any, D.any, D.any, D.any, D.any, D.any, D.any, D.any] []) A))
theorem r52 (a0 a1 : D) (A : St) : Run Try.prog codecH 52 [a0, a1] A = f52 (Run Try.prog codecH) (Dcall Try.prog codecH) a0 a1 A := by
  rw [Run_eqK (J := k52)]
  kernel_rfl
end Go.Vm.Codec
