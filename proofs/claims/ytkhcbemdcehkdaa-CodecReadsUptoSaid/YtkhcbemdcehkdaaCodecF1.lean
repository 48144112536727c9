/- Written by a program: what the abstract run of each function comes to, one definition a function, and its equation. -/
import Derived.Test.YtkhcbemdcehkdaaCodecH
import Derived.KernelRfl
set_option linter.all false
namespace Go.Vm.Codec
open Go.Proofs
set_option maxRecDepth 100000
set_option linter.unusedVariables false
set_option maxHeartbeats 0
noncomputable def f9 (call : (FuncId → ((List D) → (St → ORes)))) (dcall : (D → ((List D) → ((Option D) → (St → (Option ((Option D) × St))))))) (a0 : D) (A : St) : (Option (Res × St)) :=
  (bn (boxO Bool.true a0 A) fun (x0 : (D × St)) =>
 (bn (fieldAddrO 5 (x0).fst) fun (x1 : D) =>
 (bn (Option.map (fun (x2 : D) => (x2, (x0).snd)) (loadO Bool.false 1 x1 (x0).snd)) fun (x2 : (D × St)) =>
 (bn (lenSlO (x2).fst) fun (x3 : D) =>
 (bn (binO BinOp.gtr 3 Bool.true x3 (D.int IntKind.i64 (65536 : Int))) fun (x4 : D) =>
 (bn (D.bool? x4) fun (x5 : Bool) =>
 (ifb x5 (leaveD RetK.trunc A (Res.ret (D.tup [(D.sl Own.full 0 []), (D.int IntKind.i64 (2 : Int))])) (x2).snd)
 (bn (fieldAddrO 0 (x0).fst) fun (x6 : D) =>
 (bn (Option.map (fun (x7 : D) => (x7, (x2).snd)) (loadO Bool.false 1 x6 (x2).snd)) fun (x7 : (D × St)) =>
 (bn (Option.map (fun (x8 : D) => (x8, (x7).snd)) (Option.map (D.sl Own.full 1) (sliceParts 1 Bool.false 0 [(0, (D.int IntKind.u8 (70 : Int))), (1, (x7).fst)]))) fun (x8 : (D × St)) =>
 (bn (tokO [(0, 1)] (x8).fst (x8).snd) fun (x9 : (D × St)) =>
 (bn (Option.map D.agg (Option.bind (layCells Bool.false 1 0 [(D.sl Own.full 0 [])] (x9).fst) (fun (x10 : (List D)) => (Option.some x10)))) fun (x10 : D) =>
 (bn (boxO Bool.true x10 (x9).snd) fun (x11 : (D × St)) =>
 (bn (fieldAddrO 1 (x0).fst) fun (x12 : D) =>
 (bn (Option.map (fun (x13 : D) => (x13, (x11).snd)) (loadO Bool.false 1 x12 (x11).snd)) fun (x13 : (D × St)) =>
 (bn (convO (ConvK.int IntKind.u64) (x13).fst) fun (x14 : D) =>
 (bn (fieldAddrO 2 (x0).fst) fun (x15 : D) =>
 (bn (Option.map (fun (x16 : D) => (x16, (x13).snd)) (loadO Bool.false 1 x15 (x13).snd)) fun (x16 : (D × St)) =>
 (bn (convO (ConvK.int IntKind.u64) (x16).fst) fun (x17 : D) =>
 (bn (Option.map (fun (x18 : D) => (x18, (x16).snd)) (Option.map (D.sl Own.full 1) (sliceParts 1 Bool.false 0 [(0, x14), (1, x17)]))) fun (x18 : (D × St)) =>
 (bn (call 23 [(x11).fst, (D.int IntKind.i64 (4 : Int)), (x18).fst] (x18).snd) fun (x19 : (Res × St)) =>
 (Res.elim (x19).fst (fun (x20 : D) => (bn (fieldAddrO 3 (x0).fst) fun (x21 : D) =>
 (bn (Option.map (fun (x22 : D) => (x22, (x19).snd)) (loadO Bool.false 1 x21 (x19).snd)) fun (x22 : (D × St)) =>
 (bn (fieldAddrO 4 (x0).fst) fun (x23 : D) =>
 (bn (Option.map (fun (x24 : D) => (x24, (x22).snd)) (loadO Bool.false 1 x23 (x22).snd)) fun (x24 : (D × St)) =>
 (bn (Option.map (fun (x25 : D) => (x25, (x24).snd)) (Option.map (D.sl Own.full 1) (sliceParts 1 Bool.false 0 [(0, (x22).fst), (1, (x24).fst)]))) fun (x25 : (D × St)) =>
 (bn (call 23 [(x11).fst, (D.int IntKind.i64 (8 : Int)), (x25).fst] (x25).snd) fun (x26 : (Res × St)) =>
 (Res.elim (x26).fst (fun (x27 : D) => (bn (fieldAddrO 5 (x0).fst) fun (x28 : D) =>
 (bn (Option.map (fun (x29 : D) => (x29, (x26).snd)) (loadO Bool.false 1 x28 (x26).snd)) fun (x29 : (D × St)) =>
 (bn (lenSlO (x29).fst) fun (x30 : D) =>
 (bn (convO (ConvK.int IntKind.u64) x30) fun (x31 : D) =>
 (bn (Option.map (fun (x32 : D) => (x32, (x29).snd)) (Option.map (D.sl Own.full 1) (sliceParts 1 Bool.false 0 [(0, x31)]))) fun (x32 : (D × St)) =>
 (bn (call 23 [(x11).fst, (D.int IntKind.i64 (4 : Int)), (x32).fst] (x32).snd) fun (x33 : (Res × St)) =>
 (Res.elim (x33).fst (fun (x34 : D) => (bn (nilCheckD (x11).fst) fun (x35 : D) =>
 (bn (fieldAddrO 0 x35) fun (x36 : D) =>
 (bn (Option.map (fun (x37 : (D × St)) => (x37).fst) (Option.map (fun (x37 : D) => (x37, (x33).snd)) (loadO Bool.false 1 x36 (x33).snd))) fun (x37 : D) =>
 (bn (fieldAddrO 5 (x0).fst) fun (x38 : D) =>
 (bn (Option.map (fun (x39 : (D × St)) => (x39).fst) (Option.map (fun (x39 : D) => (x39, (x33).snd)) (loadO Bool.false 1 x38 (x33).snd))) fun (x39 : D) =>
 (bn (appendO 1 1 x37 x39 (x33).snd) fun (x40 : (D × St)) =>
 (guardP True (leaveD RetK.trunc A (Res.ret (D.tup [(x40).fst, (D.int IntKind.i64 (0 : Int))])) (x40).snd))))))))) (fun (x34 : D) => (leaveD RetK.trunc A (Res.pan x34) (x33).snd)))))))))) (fun (x27 : D) => (leaveD RetK.trunc A (Res.pan x27) (x26).snd)))))))))) (fun (x20 : D) => (leaveD RetK.trunc A (Res.pan x20) (x19).snd))))))))))))))))))))))))
theorem r9 (a0 : D) (A : St) : Run Try.prog codecH 9 [a0] A = f9 (Run Try.prog codecH) (Dcall Try.prog codecH) a0 A := by
  rw [Run_eqK (J := k9)]
  kernel_rfl
noncomputable def f11 (call : (FuncId → ((List D) → (St → ORes)))) (dcall : (D → ((List D) → ((Option D) → (St → (Option ((Option D) × St))))))) (a0 : D) (A : St) : (Option (Res × St)) :=
  (bn (allocO [(D.int IntKind.u8 (0 : Int)), (D.int IntKind.u32 (0 : Int)), (D.int IntKind.u32 (0 : Int)), (D.int IntKind.u64 (0 : Int)), (D.int IntKind.u64 (0 : Int)), (D.sl Own.full 0 [])] A) fun (x0 : (D × St)) =>
 (bn (allocO [(D.int IntKind.i64 (0 : Int))] (x0).snd) fun (x1 : (D × St)) =>
 (bn (allocO [(D.int IntKind.i64 (0 : Int))] (x1).snd) fun (x2 : (D × St)) =>
 (bn (lenSlO a0) fun (x3 : D) =>
 (bn (binO BinOp.eql 3 Bool.true x3 (D.int IntKind.i64 (0 : Int))) fun (x4 : D) =>
 (bn (guardB Bool.false x4) fun (x5 : Bool) =>
 (bn (ifb x5 (Option.some a0)
 (Option.some (D.tup []))) fun (x6 : D) =>
 (bn (guardB Bool.false x4) fun (x7 : Bool) =>
 (bn (ifb x7 (indexAddrO 1 Bool.false x6 (D.int IntKind.i64 (0 : Int)))
 (Option.some (D.tup []))) fun (x8 : D) =>
 (bn (guardB Bool.false x4) fun (x9 : Bool) =>
 (bn (ifb x9 (Option.map (fun (x10 : D) => (x10, (x2).snd)) (loadO Bool.false 1 x8 (x2).snd))
 (Option.some ((D.tup []), (x2).snd))) fun (x10 : (D × St)) =>
 (bn (guardB Bool.false x4) fun (x11 : Bool) =>
 (bn (ifb x11 (binO BinOp.neq 3 Bool.true (x10).fst (D.int IntKind.u8 (70 : Int)))
 (Option.some (D.tup []))) fun (x12 : D) =>
 (bn (Option.map (fun (x13 : Bool) => (ifb x13 (D.bool Bool.true)
 x12)) (D.bool? x4)) fun (x13 : D) =>
 (bn (D.bool? x13) fun (x14 : Bool) =>
 (bn (ifb x14 (bn (call 27 [(D.int IntKind.i64 (0 : Int))] (x10).snd) fun (x15 : (Res × St)) =>
 (Res.elim (x15).fst (fun (x16 : D) => (Option.some (Sum.inl ((Env.mk [a0, (D.tup []), (x0).fst, (x1).fst, (x2).fst, (D.tup []), (D.tup []), (D.fn (Fn.func 25) [] [(x2).fst, (x0).fst]), (D.bool Bool.true), a0, x3, x4, x4, x6, x8, (x10).fst, x12, x13, x16, (D.tup []), (D.tup []), (D.tup []), (D.tup []), (D.tup []), (D.tup []), (D.tup []), (D.tup []), (D.tup []), (D.tup []), (D.tup []), (D.tup []), (D.tup []), (D.tup []), (D.tup []), (D.tup []), (D.tup []), (D.tup []), (D.tup []), (D.tup []), (D.tup []), (D.tup []), (D.tup []), (D.tup []), (D.tup []), (D.tup []), (D.tup []), (D.tup []), (D.tup []), (D.tup []), (D.tup []), (D.tup []), (D.tup []), (D.tup []), (D.tup []), (D.tup []), (D.tup []), (D.tup []), (D.tup []), (D.tup []), (D.tup []), (D.tup []), (D.tup []), (D.tup []), (D.tup []), (D.tup []), (D.tup []), (D.tup []), (D.tup []), (D.tup []), (D.tup []), (D.tup []), (D.tup []), (D.tup []), (D.tup []), (D.tup []), (D.tup []), (D.tup []), (D.tup []), (D.tup []), (D.tup []), (D.tup []), (D.tup []), (D.tup [])] [((D.fn (Fn.func 26) [] []), [(x1).fst, (x2).fst]), ((D.fn (Fn.func 25) [] [(x2).fst, (x0).fst]), [])]), (x15).snd)))) (fun (x16 : D) => (Option.map (Sum.inr ) (bn (leavesD dcall (fun (x17 : St) => (Option.map packD (Option.bind (loadO Bool.true 6 (x0).fst x17) (fun (x18 : D) => (Option.map (fun (x19 : (List D)) => (@List.cons D x18 x19)) (Option.bind (loadO Bool.false 1 (x1).fst x17) (fun (x19 : D) => (Option.map (fun (x20 : (List D)) => (@List.cons D x19 x20)) (Option.bind (loadO Bool.false 1 (x2).fst x17) (fun (x20 : D) => (Option.some [x20]))))))))))) [((D.fn (Fn.func 26) [] []), [(x1).fst, (x2).fst]), ((D.fn (Fn.func 25) [] [(x2).fst, (x0).fst]), [])] (Option.some x16) (x15).snd) fun (x17 : (Res × St)) =>
 (leaveD RetK.trunc A (x17).fst (x17).snd))))))
 (bn (lenSlO a0) fun (x15 : D) =>
 (bn (binO BinOp.lss 3 Bool.true x15 (D.int IntKind.i64 (30 : Int))) fun (x16 : D) =>
 (bn (D.bool? x16) fun (x17 : Bool) =>
 (bn (ifb x17 (bn (lenSlO a0) fun (x18 : D) =>
 (bn (call 27 [x18] (x10).snd) fun (x19 : (Res × St)) =>
 (Res.elim (x19).fst (fun (x20 : D) => (Option.some (Sum.inl ((Env.mk [a0, (D.tup []), (x0).fst, (x1).fst, (x2).fst, (D.tup []), (D.tup []), (D.fn (Fn.func 25) [] [(x2).fst, (x0).fst]), (D.bool Bool.false), a0, x3, x4, x4, x6, x8, (x10).fst, x12, x13, (D.tup []), (D.bool Bool.true), a0, x15, x16, a0, x18, x20, (D.tup []), (D.tup []), (D.tup []), (D.tup []), (D.tup []), (D.tup []), (D.tup []), (D.tup []), (D.tup []), (D.tup []), (D.tup []), (D.tup []), (D.tup []), (D.tup []), (D.tup []), (D.tup []), (D.tup []), (D.tup []), (D.tup []), (D.tup []), (D.tup []), (D.tup []), (D.tup []), (D.tup []), (D.tup []), (D.tup []), (D.tup []), (D.tup []), (D.tup []), (D.tup []), (D.tup []), (D.tup []), (D.tup []), (D.tup []), (D.tup []), (D.tup []), (D.tup []), (D.tup []), (D.tup []), (D.tup []), (D.tup []), (D.tup []), (D.tup []), (D.tup []), (D.tup []), (D.tup []), (D.tup []), (D.tup []), (D.tup []), (D.tup []), (D.tup []), (D.tup []), (D.tup []), (D.tup []), (D.tup []), (D.tup []), (D.tup [])] [((D.fn (Fn.func 26) [] []), [(x1).fst, (x2).fst]), ((D.fn (Fn.func 25) [] [(x2).fst, (x0).fst]), [])]), (x19).snd)))) (fun (x20 : D) => (Option.map (Sum.inr ) (Option.map (Sum.inr ) (bn (leavesD dcall (fun (x21 : St) => (Option.map packD (Option.bind (loadO Bool.true 6 (x0).fst x21) (fun (x22 : D) => (Option.map (fun (x23 : (List D)) => (@List.cons D x22 x23)) (Option.bind (loadO Bool.false 1 (x1).fst x21) (fun (x23 : D) => (Option.map (fun (x24 : (List D)) => (@List.cons D x23 x24)) (Option.bind (loadO Bool.false 1 (x2).fst x21) (fun (x24 : D) => (Option.some [x24]))))))))))) [((D.fn (Fn.func 26) [] []), [(x1).fst, (x2).fst]), ((D.fn (Fn.func 25) [] [(x2).fst, (x0).fst]), [])] (Option.some x20) (x19).snd) fun (x21 : (Res × St)) =>
 (leaveD RetK.trunc A (x21).fst (x21).snd))))))))
 (Option.some (Sum.inl ((Env.mk [a0, (D.tup []), (x0).fst, (x1).fst, (x2).fst, (D.tup []), (D.tup []), (D.fn (Fn.func 25) [] [(x2).fst, (x0).fst]), (D.bool Bool.false), a0, x3, x4, x4, x6, x8, (x10).fst, x12, x13, (D.tup []), (D.bool Bool.false), a0, x15, x16, (D.tup []), (D.tup []), (D.tup []), (D.tup []), (D.tup []), (D.tup []), (D.tup []), (D.tup []), (D.tup []), (D.tup []), (D.tup []), (D.tup []), (D.tup []), (D.tup []), (D.tup []), (D.tup []), (D.tup []), (D.tup []), (D.tup []), (D.tup []), (D.tup []), (D.tup []), (D.tup []), (D.tup []), (D.tup []), (D.tup []), (D.tup []), (D.tup []), (D.tup []), (D.tup []), (D.tup []), (D.tup []), (D.tup []), (D.tup []), (D.tup []), (D.tup []), (D.tup []), (D.tup []), (D.tup []), (D.tup []), (D.tup []), (D.tup []), (D.tup []), (D.tup []), (D.tup []), (D.tup []), (D.tup []), (D.tup []), (D.tup []), (D.tup []), (D.tup []), (D.tup []), (D.tup []), (D.tup []), (D.tup []), (D.tup []), (D.tup []), (D.tup []), (D.tup []), (D.tup [])] [((D.fn (Fn.func 26) [] []), [(x1).fst, (x2).fst]), ((D.fn (Fn.func 25) [] [(x2).fst, (x0).fst]), [])]), (x10).snd)))) fun (x18 : ((Env × St) ⊕ ((Env × St) ⊕ (Res × St)))) =>
 (Sum.elim (fun (x19 : (Env × St)) => (Option.some (Sum.inl ((x19).fst, (x19).snd)))) (fun (x19 : ((Env × St) ⊕ (Res × St))) => (Option.some x19)) x18)))))) fun (x15 : ((Env × St) ⊕ (Res × St))) =>
 (Sum.elim (fun (x16 : (Env × St)) => (bn (sliceSlO 1 (List.getD ((x16).fst).t 0 D.any) (Option.some (D.int IntKind.i64 (1 : Int))) none none) fun (x17 : D) =>
 (bn (Option.map D.agg (Option.bind (layCells Bool.false 1 0 [(D.sl Own.full 0 []), (D.int IntKind.i64 (0 : Int))] x17) (fun (x18 : (List D)) => (Option.bind (layCells Bool.false 1 1 x18 (D.int IntKind.i64 (1 : Int))) (fun (x19 : (List D)) => (Option.some x19)))))) fun (x18 : D) =>
 (bn (Option.map D.agg (Option.bind (layCells Bool.true 2 0 [(D.sl Own.full 0 []), (D.int IntKind.i64 (0 : Int))] x18) (fun (x19 : (List D)) => (Option.some x19)))) fun (x19 : D) =>
 (bn (boxO Bool.true x19 (x16).snd) fun (x20 : (D × St)) =>
 (bn (call 28 [(x20).fst, (D.int IntKind.i64 (1 : Int))] (x20).snd) fun (x21 : (Res × St)) =>
 (Res.elim (x21).fst (fun (x22 : D) => (bn (convO (ConvK.int IntKind.u8) x22) fun (x23 : D) =>
 (bn (fieldAddrO 0 (List.getD ((x16).fst).t 2 D.any)) fun (x24 : D) =>
 (bn (Option.map (fun (x25 : St) => ((D.tup []), x25)) (storeO Bool.false 1 x24 x23 (x21).snd)) fun (x25 : (D × St)) =>
 (bn (call 28 [(x20).fst, (D.int IntKind.i64 (4 : Int))] (x25).snd) fun (x26 : (Res × St)) =>
 (Res.elim (x26).fst (fun (x27 : D) => (bn (convO (ConvK.int IntKind.u32) x27) fun (x28 : D) =>
 (bn (call 28 [(x20).fst, (D.int IntKind.i64 (4 : Int))] (x26).snd) fun (x29 : (Res × St)) =>
 (Res.elim (x29).fst (fun (x30 : D) => (bn (convO (ConvK.int IntKind.u32) x30) fun (x31 : D) =>
 (bn (fieldAddrO 1 (List.getD ((x16).fst).t 2 D.any)) fun (x32 : D) =>
 (bn (Option.map (fun (x33 : St) => ((D.tup []), x33)) (storeO Bool.false 1 x32 x28 (x29).snd)) fun (x33 : (D × St)) =>
 (bn (fieldAddrO 2 (List.getD ((x16).fst).t 2 D.any)) fun (x34 : D) =>
 (bn (Option.map (fun (x35 : St) => ((D.tup []), x35)) (storeO Bool.false 1 x34 x31 (x33).snd)) fun (x35 : (D × St)) =>
 (bn (call 28 [(x20).fst, (D.int IntKind.i64 (8 : Int))] (x35).snd) fun (x36 : (Res × St)) =>
 (Res.elim (x36).fst (fun (x37 : D) => (bn (call 28 [(x20).fst, (D.int IntKind.i64 (8 : Int))] (x36).snd) fun (x38 : (Res × St)) =>
 (Res.elim (x38).fst (fun (x39 : D) => (bn (fieldAddrO 3 (List.getD ((x16).fst).t 2 D.any)) fun (x40 : D) =>
 (bn (Option.map (fun (x41 : St) => ((D.tup []), x41)) (storeO Bool.false 1 x40 x37 (x38).snd)) fun (x41 : (D × St)) =>
 (bn (fieldAddrO 4 (List.getD ((x16).fst).t 2 D.any)) fun (x42 : D) =>
 (bn (Option.map (fun (x43 : St) => ((D.tup []), x43)) (storeO Bool.false 1 x42 x39 (x41).snd)) fun (x43 : (D × St)) =>
 (bn (call 29 [(x20).fst, (D.int IntKind.i64 (4 : Int)), (D.int IntKind.u64 (65536 : Int))] (x43).snd) fun (x44 : (Res × St)) =>
 (Res.elim (x44).fst (fun (x45 : D) => (bn (nilCheckD (x20).fst) fun (x46 : D) =>
 (bn (fieldAddrO 0 x46) fun (x47 : D) =>
 (bn (fieldAddrO 0 x47) fun (x48 : D) =>
 (bn (Option.map (fun (x49 : D) => (x49, (x44).snd)) (loadO Bool.false 1 x48 (x44).snd)) fun (x49 : (D × St)) =>
 (bn (lenSlO (x49).fst) fun (x50 : D) =>
 (bn (binO BinOp.lss 3 Bool.false x50 x45) fun (x51 : D) =>
 (bn (D.bool? x51) fun (x52 : Bool) =>
 (bn (ifb x52 (bn (lenSlO (List.getD ((x16).fst).t 0 D.any)) fun (x53 : D) =>
 (bn (call 27 [x53] (x49).snd) fun (x54 : (Res × St)) =>
 (Res.elim (x54).fst (fun (x55 : D) => (Option.some (Sum.inl ((Env.mk [(List.getD ((x16).fst).t 0 D.any), (List.getD ((x16).fst).t 1 D.any), (List.getD ((x16).fst).t 2 D.any), (List.getD ((x16).fst).t 3 D.any), (List.getD ((x16).fst).t 4 D.any), (x20).fst, x45, (List.getD ((x16).fst).t 7 D.any), (List.getD ((x16).fst).t 8 D.any), (List.getD ((x16).fst).t 9 D.any), (List.getD ((x16).fst).t 10 D.any), (List.getD ((x16).fst).t 11 D.any), (List.getD ((x16).fst).t 12 D.any), (List.getD ((x16).fst).t 13 D.any), (List.getD ((x16).fst).t 14 D.any), (List.getD ((x16).fst).t 15 D.any), (List.getD ((x16).fst).t 16 D.any), (List.getD ((x16).fst).t 17 D.any), (List.getD ((x16).fst).t 18 D.any), (List.getD ((x16).fst).t 19 D.any), (List.getD ((x16).fst).t 20 D.any), (List.getD ((x16).fst).t 21 D.any), (List.getD ((x16).fst).t 22 D.any), (List.getD ((x16).fst).t 23 D.any), (List.getD ((x16).fst).t 24 D.any), (List.getD ((x16).fst).t 25 D.any), (List.getD ((x16).fst).t 0 D.any), x17, x18, x19, (x20).fst, (x20).fst, x22, x23, x24, (x20).fst, x27, x28, (x20).fst, x30, x31, x32, x34, (x20).fst, x37, (x20).fst, x39, x40, x42, (x20).fst, x45, (x20).fst, x46, x47, x48, (x49).fst, x50, x45, (D.bool Bool.true), (List.getD ((x16).fst).t 0 D.any), x53, x55, (List.getD ((x16).fst).t 62 D.any), (List.getD ((x16).fst).t 63 D.any), (List.getD ((x16).fst).t 64 D.any), (List.getD ((x16).fst).t 65 D.any), (List.getD ((x16).fst).t 66 D.any), (List.getD ((x16).fst).t 67 D.any), (List.getD ((x16).fst).t 68 D.any), (List.getD ((x16).fst).t 69 D.any), (List.getD ((x16).fst).t 70 D.any), (List.getD ((x16).fst).t 71 D.any), (List.getD ((x16).fst).t 72 D.any), (List.getD ((x16).fst).t 73 D.any), (List.getD ((x16).fst).t 74 D.any), (List.getD ((x16).fst).t 75 D.any), (List.getD ((x16).fst).t 76 D.any), (List.getD ((x16).fst).t 77 D.any), (List.getD ((x16).fst).t 78 D.any), (List.getD ((x16).fst).t 79 D.any), (List.getD ((x16).fst).t 80 D.any), (List.getD ((x16).fst).t 81 D.any), (List.getD ((x16).fst).t 82 D.any)] ((x16).fst).df), (x54).snd)))) (fun (x55 : D) => (Option.map (Sum.inr ) (bn (leavesD dcall (fun (x56 : St) => (Option.map packD (Option.bind (loadO Bool.true 6 (List.getD ((x16).fst).t 2 D.any) x56) (fun (x57 : D) => (Option.map (fun (x58 : (List D)) => (@List.cons D x57 x58)) (Option.bind (loadO Bool.false 1 (List.getD ((x16).fst).t 3 D.any) x56) (fun (x58 : D) => (Option.map (fun (x59 : (List D)) => (@List.cons D x58 x59)) (Option.bind (loadO Bool.false 1 (List.getD ((x16).fst).t 4 D.any) x56) (fun (x59 : D) => (Option.some [x59]))))))))))) ((x16).fst).df (Option.some x55) (x54).snd) fun (x56 : (Res × St)) =>
 (leaveD RetK.trunc A (x56).fst (x56).snd)))))))
 (Option.some (Sum.inl ((Env.mk [(List.getD ((x16).fst).t 0 D.any), (List.getD ((x16).fst).t 1 D.any), (List.getD ((x16).fst).t 2 D.any), (List.getD ((x16).fst).t 3 D.any), (List.getD ((x16).fst).t 4 D.any), (x20).fst, x45, (List.getD ((x16).fst).t 7 D.any), (List.getD ((x16).fst).t 8 D.any), (List.getD ((x16).fst).t 9 D.any), (List.getD ((x16).fst).t 10 D.any), (List.getD ((x16).fst).t 11 D.any), (List.getD ((x16).fst).t 12 D.any), (List.getD ((x16).fst).t 13 D.any), (List.getD ((x16).fst).t 14 D.any), (List.getD ((x16).fst).t 15 D.any), (List.getD ((x16).fst).t 16 D.any), (List.getD ((x16).fst).t 17 D.any), (List.getD ((x16).fst).t 18 D.any), (List.getD ((x16).fst).t 19 D.any), (List.getD ((x16).fst).t 20 D.any), (List.getD ((x16).fst).t 21 D.any), (List.getD ((x16).fst).t 22 D.any), (List.getD ((x16).fst).t 23 D.any), (List.getD ((x16).fst).t 24 D.any), (List.getD ((x16).fst).t 25 D.any), (List.getD ((x16).fst).t 0 D.any), x17, x18, x19, (x20).fst, (x20).fst, x22, x23, x24, (x20).fst, x27, x28, (x20).fst, x30, x31, x32, x34, (x20).fst, x37, (x20).fst, x39, x40, x42, (x20).fst, x45, (x20).fst, x46, x47, x48, (x49).fst, x50, x45, (D.bool Bool.false), (List.getD ((x16).fst).t 59 D.any), (List.getD ((x16).fst).t 60 D.any), (List.getD ((x16).fst).t 61 D.any), (List.getD ((x16).fst).t 62 D.any), (List.getD ((x16).fst).t 63 D.any), (List.getD ((x16).fst).t 64 D.any), (List.getD ((x16).fst).t 65 D.any), (List.getD ((x16).fst).t 66 D.any), (List.getD ((x16).fst).t 67 D.any), (List.getD ((x16).fst).t 68 D.any), (List.getD ((x16).fst).t 69 D.any), (List.getD ((x16).fst).t 70 D.any), (List.getD ((x16).fst).t 71 D.any), (List.getD ((x16).fst).t 72 D.any), (List.getD ((x16).fst).t 73 D.any), (List.getD ((x16).fst).t 74 D.any), (List.getD ((x16).fst).t 75 D.any), (List.getD ((x16).fst).t 76 D.any), (List.getD ((x16).fst).t 77 D.any), (List.getD ((x16).fst).t 78 D.any), (List.getD ((x16).fst).t 79 D.any), (List.getD ((x16).fst).t 80 D.any), (List.getD ((x16).fst).t 81 D.any), (List.getD ((x16).fst).t 82 D.any)] ((x16).fst).df), (x49).snd)))) fun (x53 : ((Env × St) ⊕ (Res × St))) =>
 (Sum.elim (fun (x54 : (Env × St)) => (bn (nilCheckD (List.getD ((x54).fst).t 5 D.any)) fun (x55 : D) =>
 (bn (fieldAddrO 0 x55) fun (x56 : D) =>
 (bn (call 31 [x56, (List.getD ((x54).fst).t 6 D.any)] (x54).snd) fun (x57 : (Res × St)) =>
 (Res.elim (x57).fst (fun (x58 : D) => (bn (call 30 [x58] (x57).snd) fun (x59 : (Res × St)) =>
 (Res.elim (x59).fst (fun (x60 : D) => (bn (fieldAddrO 5 (List.getD ((x54).fst).t 2 D.any)) fun (x61 : D) =>
 (bn (Option.map (fun (x62 : St) => ((D.tup []), x62)) (storeO Bool.false 1 x61 x60 (x59).snd)) fun (x62 : (D × St)) =>
 (bn (nilCheckD (List.getD ((x54).fst).t 5 D.any)) fun (x63 : D) =>
 (bn (fieldAddrO 0 x63) fun (x64 : D) =>
 (bn (fieldAddrO 0 x64) fun (x65 : D) =>
 (bn (Option.map (fun (x66 : D) => (x66, (x62).snd)) (loadO Bool.false 1 x65 (x62).snd)) fun (x66 : (D × St)) =>
 (bn (lenSlO (x66).fst) fun (x67 : D) =>
 (bn (binO BinOp.gtr 3 Bool.true x67 (D.int IntKind.i64 (0 : Int))) fun (x68 : D) =>
 (bn (D.bool? x68) fun (x69 : Bool) =>
 (bn (ifb x69 (bn (nilCheckD (List.getD ((x54).fst).t 5 D.any)) fun (x70 : D) =>
 (bn (fieldAddrO 0 x70) fun (x71 : D) =>
 (bn (fieldAddrO 1 x71) fun (x72 : D) =>
 (bn (Option.map (fun (x73 : D) => (x73, (x66).snd)) (loadO Bool.false 1 x72 (x66).snd)) fun (x73 : (D × St)) =>
 (bn (call 27 [(x73).fst] (x73).snd) fun (x74 : (Res × St)) =>
 (Res.elim (x74).fst (fun (x75 : D) => (Option.some (Sum.inl ((Env.mk [(List.getD ((x54).fst).t 0 D.any), (List.getD ((x54).fst).t 1 D.any), (List.getD ((x54).fst).t 2 D.any), (List.getD ((x54).fst).t 3 D.any), (List.getD ((x54).fst).t 4 D.any), (List.getD ((x54).fst).t 5 D.any), (List.getD ((x54).fst).t 6 D.any), (List.getD ((x54).fst).t 7 D.any), (List.getD ((x54).fst).t 8 D.any), (List.getD ((x54).fst).t 9 D.any), (List.getD ((x54).fst).t 10 D.any), (List.getD ((x54).fst).t 11 D.any), (List.getD ((x54).fst).t 12 D.any), (List.getD ((x54).fst).t 13 D.any), (List.getD ((x54).fst).t 14 D.any), (List.getD ((x54).fst).t 15 D.any), (List.getD ((x54).fst).t 16 D.any), (List.getD ((x54).fst).t 17 D.any), (List.getD ((x54).fst).t 18 D.any), (List.getD ((x54).fst).t 19 D.any), (List.getD ((x54).fst).t 20 D.any), (List.getD ((x54).fst).t 21 D.any), (List.getD ((x54).fst).t 22 D.any), (List.getD ((x54).fst).t 23 D.any), (List.getD ((x54).fst).t 24 D.any), (List.getD ((x54).fst).t 25 D.any), (List.getD ((x54).fst).t 26 D.any), (List.getD ((x54).fst).t 27 D.any), (List.getD ((x54).fst).t 28 D.any), (List.getD ((x54).fst).t 29 D.any), (List.getD ((x54).fst).t 30 D.any), (List.getD ((x54).fst).t 31 D.any), (List.getD ((x54).fst).t 32 D.any), (List.getD ((x54).fst).t 33 D.any), (List.getD ((x54).fst).t 34 D.any), (List.getD ((x54).fst).t 35 D.any), (List.getD ((x54).fst).t 36 D.any), (List.getD ((x54).fst).t 37 D.any), (List.getD ((x54).fst).t 38 D.any), (List.getD ((x54).fst).t 39 D.any), (List.getD ((x54).fst).t 40 D.any), (List.getD ((x54).fst).t 41 D.any), (List.getD ((x54).fst).t 42 D.any), (List.getD ((x54).fst).t 43 D.any), (List.getD ((x54).fst).t 44 D.any), (List.getD ((x54).fst).t 45 D.any), (List.getD ((x54).fst).t 46 D.any), (List.getD ((x54).fst).t 47 D.any), (List.getD ((x54).fst).t 48 D.any), (List.getD ((x54).fst).t 49 D.any), (List.getD ((x54).fst).t 50 D.any), (List.getD ((x54).fst).t 51 D.any), (List.getD ((x54).fst).t 52 D.any), (List.getD ((x54).fst).t 53 D.any), (List.getD ((x54).fst).t 54 D.any), (List.getD ((x54).fst).t 55 D.any), (List.getD ((x54).fst).t 56 D.any), (List.getD ((x54).fst).t 57 D.any), (List.getD ((x54).fst).t 58 D.any), (List.getD ((x54).fst).t 59 D.any), (List.getD ((x54).fst).t 60 D.any), (List.getD ((x54).fst).t 61 D.any), (List.getD ((x54).fst).t 5 D.any), x55, x56, (List.getD ((x54).fst).t 6 D.any), x58, x60, x61, (List.getD ((x54).fst).t 5 D.any), x63, x64, x65, (x66).fst, x67, (D.bool Bool.true), (List.getD ((x54).fst).t 5 D.any), x70, x71, x72, (x73).fst, x75, (List.getD ((x54).fst).t 82 D.any)] ((x54).fst).df), (x74).snd)))) (fun (x75 : D) => (Option.map (Sum.inr ) (bn (leavesD dcall (fun (x76 : St) => (Option.map packD (Option.bind (loadO Bool.true 6 (List.getD ((x54).fst).t 2 D.any) x76) (fun (x77 : D) => (Option.map (fun (x78 : (List D)) => (@List.cons D x77 x78)) (Option.bind (loadO Bool.false 1 (List.getD ((x54).fst).t 3 D.any) x76) (fun (x78 : D) => (Option.map (fun (x79 : (List D)) => (@List.cons D x78 x79)) (Option.bind (loadO Bool.false 1 (List.getD ((x54).fst).t 4 D.any) x76) (fun (x79 : D) => (Option.some [x79]))))))))))) ((x54).fst).df (Option.some x75) (x74).snd) fun (x76 : (Res × St)) =>
 (leaveD RetK.trunc A (x76).fst (x76).snd))))))))))
 (Option.some (Sum.inl ((Env.mk [(List.getD ((x54).fst).t 0 D.any), (List.getD ((x54).fst).t 1 D.any), (List.getD ((x54).fst).t 2 D.any), (List.getD ((x54).fst).t 3 D.any), (List.getD ((x54).fst).t 4 D.any), (List.getD ((x54).fst).t 5 D.any), (List.getD ((x54).fst).t 6 D.any), (List.getD ((x54).fst).t 7 D.any), (List.getD ((x54).fst).t 8 D.any), (List.getD ((x54).fst).t 9 D.any), (List.getD ((x54).fst).t 10 D.any), (List.getD ((x54).fst).t 11 D.any), (List.getD ((x54).fst).t 12 D.any), (List.getD ((x54).fst).t 13 D.any), (List.getD ((x54).fst).t 14 D.any), (List.getD ((x54).fst).t 15 D.any), (List.getD ((x54).fst).t 16 D.any), (List.getD ((x54).fst).t 17 D.any), (List.getD ((x54).fst).t 18 D.any), (List.getD ((x54).fst).t 19 D.any), (List.getD ((x54).fst).t 20 D.any), (List.getD ((x54).fst).t 21 D.any), (List.getD ((x54).fst).t 22 D.any), (List.getD ((x54).fst).t 23 D.any), (List.getD ((x54).fst).t 24 D.any), (List.getD ((x54).fst).t 25 D.any), (List.getD ((x54).fst).t 26 D.any), (List.getD ((x54).fst).t 27 D.any), (List.getD ((x54).fst).t 28 D.any), (List.getD ((x54).fst).t 29 D.any), (List.getD ((x54).fst).t 30 D.any), (List.getD ((x54).fst).t 31 D.any), (List.getD ((x54).fst).t 32 D.any), (List.getD ((x54).fst).t 33 D.any), (List.getD ((x54).fst).t 34 D.any), (List.getD ((x54).fst).t 35 D.any), (List.getD ((x54).fst).t 36 D.any), (List.getD ((x54).fst).t 37 D.any), (List.getD ((x54).fst).t 38 D.any), (List.getD ((x54).fst).t 39 D.any), (List.getD ((x54).fst).t 40 D.any), (List.getD ((x54).fst).t 41 D.any), (List.getD ((x54).fst).t 42 D.any), (List.getD ((x54).fst).t 43 D.any), (List.getD ((x54).fst).t 44 D.any), (List.getD ((x54).fst).t 45 D.any), (List.getD ((x54).fst).t 46 D.any), (List.getD ((x54).fst).t 47 D.any), (List.getD ((x54).fst).t 48 D.any), (List.getD ((x54).fst).t 49 D.any), (List.getD ((x54).fst).t 50 D.any), (List.getD ((x54).fst).t 51 D.any), (List.getD ((x54).fst).t 52 D.any), (List.getD ((x54).fst).t 53 D.any), (List.getD ((x54).fst).t 54 D.any), (List.getD ((x54).fst).t 55 D.any), (List.getD ((x54).fst).t 56 D.any), (List.getD ((x54).fst).t 57 D.any), (List.getD ((x54).fst).t 58 D.any), (List.getD ((x54).fst).t 59 D.any), (List.getD ((x54).fst).t 60 D.any), (List.getD ((x54).fst).t 61 D.any), (List.getD ((x54).fst).t 5 D.any), x55, x56, (List.getD ((x54).fst).t 6 D.any), x58, x60, x61, (List.getD ((x54).fst).t 5 D.any), x63, x64, x65, (x66).fst, x67, (D.bool Bool.false), (List.getD ((x54).fst).t 76 D.any), (List.getD ((x54).fst).t 77 D.any), (List.getD ((x54).fst).t 78 D.any), (List.getD ((x54).fst).t 79 D.any), (List.getD ((x54).fst).t 80 D.any), (List.getD ((x54).fst).t 81 D.any), (List.getD ((x54).fst).t 82 D.any)] ((x54).fst).df), (x66).snd)))) fun (x70 : ((Env × St) ⊕ (Res × St))) =>
 (Sum.elim (fun (x71 : (Env × St)) => (bn (Option.map (fun (x72 : D) => (x72, (x71).snd)) (loadO Bool.true 6 (List.getD ((x71).fst).t 2 D.any) (x71).snd)) fun (x72 : (D × St)) =>
 (bn (Option.map (fun (x73 : St) => ((D.tup []), x73)) (storeO Bool.true 6 (List.getD ((x71).fst).t 2 D.any) (x72).fst (x72).snd)) fun (x73 : (D × St)) =>
 (bn (Option.map (fun (x74 : St) => ((D.tup []), x74)) (storeO Bool.false 1 (List.getD ((x71).fst).t 3 D.any) (D.int IntKind.i64 (0 : Int)) (x73).snd)) fun (x74 : (D × St)) =>
 (bn (Option.map (fun (x75 : St) => ((D.tup []), x75)) (storeO Bool.false 1 (List.getD ((x71).fst).t 4 D.any) (D.int IntKind.i64 (0 : Int)) (x74).snd)) fun (x75 : (D × St)) =>
 (bn (leavesD dcall (fun (x76 : St) => (Option.map packD (Option.bind (loadO Bool.true 6 (List.getD ((x71).fst).t 2 D.any) x76) (fun (x77 : D) => (Option.map (fun (x78 : (List D)) => (@List.cons D x77 x78)) (Option.bind (loadO Bool.false 1 (List.getD ((x71).fst).t 3 D.any) x76) (fun (x78 : D) => (Option.map (fun (x79 : (List D)) => (@List.cons D x78 x79)) (Option.bind (loadO Bool.false 1 (List.getD ((x71).fst).t 4 D.any) x76) (fun (x79 : D) => (Option.some [x79]))))))))))) ((x71).fst).df none (x75).snd) fun (x76 : (Res × St)) =>
 (leaveD RetK.trunc A (x76).fst (x76).snd))))))) (fun (x71 : (Res × St)) => (Option.some x71)) x70)))))))))))) (fun (x60 : D) => (bn (leavesD dcall (fun (x61 : St) => (Option.map packD (Option.bind (loadO Bool.true 6 (List.getD ((x54).fst).t 2 D.any) x61) (fun (x62 : D) => (Option.map (fun (x63 : (List D)) => (@List.cons D x62 x63)) (Option.bind (loadO Bool.false 1 (List.getD ((x54).fst).t 3 D.any) x61) (fun (x63 : D) => (Option.map (fun (x64 : (List D)) => (@List.cons D x63 x64)) (Option.bind (loadO Bool.false 1 (List.getD ((x54).fst).t 4 D.any) x61) (fun (x64 : D) => (Option.some [x64]))))))))))) ((x54).fst).df (Option.some x60) (x59).snd) fun (x61 : (Res × St)) =>
 (leaveD RetK.trunc A (x61).fst (x61).snd)))))) (fun (x58 : D) => (bn (leavesD dcall (fun (x59 : St) => (Option.map packD (Option.bind (loadO Bool.true 6 (List.getD ((x54).fst).t 2 D.any) x59) (fun (x60 : D) => (Option.map (fun (x61 : (List D)) => (@List.cons D x60 x61)) (Option.bind (loadO Bool.false 1 (List.getD ((x54).fst).t 3 D.any) x59) (fun (x61 : D) => (Option.map (fun (x62 : (List D)) => (@List.cons D x61 x62)) (Option.bind (loadO Bool.false 1 (List.getD ((x54).fst).t 4 D.any) x59) (fun (x62 : D) => (Option.some [x62]))))))))))) ((x54).fst).df (Option.some x58) (x57).snd) fun (x59 : (Res × St)) =>
 (leaveD RetK.trunc A (x59).fst (x59).snd)))))))) (fun (x54 : (Res × St)) => (Option.some x54)) x53)))))))))) (fun (x45 : D) => (bn (leavesD dcall (fun (x46 : St) => (Option.map packD (Option.bind (loadO Bool.true 6 (List.getD ((x16).fst).t 2 D.any) x46) (fun (x47 : D) => (Option.map (fun (x48 : (List D)) => (@List.cons D x47 x48)) (Option.bind (loadO Bool.false 1 (List.getD ((x16).fst).t 3 D.any) x46) (fun (x48 : D) => (Option.map (fun (x49 : (List D)) => (@List.cons D x48 x49)) (Option.bind (loadO Bool.false 1 (List.getD ((x16).fst).t 4 D.any) x46) (fun (x49 : D) => (Option.some [x49]))))))))))) ((x16).fst).df (Option.some x45) (x44).snd) fun (x46 : (Res × St)) =>
 (leaveD RetK.trunc A (x46).fst (x46).snd)))))))))) (fun (x39 : D) => (bn (leavesD dcall (fun (x40 : St) => (Option.map packD (Option.bind (loadO Bool.true 6 (List.getD ((x16).fst).t 2 D.any) x40) (fun (x41 : D) => (Option.map (fun (x42 : (List D)) => (@List.cons D x41 x42)) (Option.bind (loadO Bool.false 1 (List.getD ((x16).fst).t 3 D.any) x40) (fun (x42 : D) => (Option.map (fun (x43 : (List D)) => (@List.cons D x42 x43)) (Option.bind (loadO Bool.false 1 (List.getD ((x16).fst).t 4 D.any) x40) (fun (x43 : D) => (Option.some [x43]))))))))))) ((x16).fst).df (Option.some x39) (x38).snd) fun (x40 : (Res × St)) =>
 (leaveD RetK.trunc A (x40).fst (x40).snd)))))) (fun (x37 : D) => (bn (leavesD dcall (fun (x38 : St) => (Option.map packD (Option.bind (loadO Bool.true 6 (List.getD ((x16).fst).t 2 D.any) x38) (fun (x39 : D) => (Option.map (fun (x40 : (List D)) => (@List.cons D x39 x40)) (Option.bind (loadO Bool.false 1 (List.getD ((x16).fst).t 3 D.any) x38) (fun (x40 : D) => (Option.map (fun (x41 : (List D)) => (@List.cons D x40 x41)) (Option.bind (loadO Bool.false 1 (List.getD ((x16).fst).t 4 D.any) x38) (fun (x41 : D) => (Option.some [x41]))))))))))) ((x16).fst).df (Option.some x37) (x36).snd) fun (x38 : (Res × St)) =>
 (leaveD RetK.trunc A (x38).fst (x38).snd))))))))))) (fun (x30 : D) => (bn (leavesD dcall (fun (x31 : St) => (Option.map packD (Option.bind (loadO Bool.true 6 (List.getD ((x16).fst).t 2 D.any) x31) (fun (x32 : D) => (Option.map (fun (x33 : (List D)) => (@List.cons D x32 x33)) (Option.bind (loadO Bool.false 1 (List.getD ((x16).fst).t 3 D.any) x31) (fun (x33 : D) => (Option.map (fun (x34 : (List D)) => (@List.cons D x33 x34)) (Option.bind (loadO Bool.false 1 (List.getD ((x16).fst).t 4 D.any) x31) (fun (x34 : D) => (Option.some [x34]))))))))))) ((x16).fst).df (Option.some x30) (x29).snd) fun (x31 : (Res × St)) =>
 (leaveD RetK.trunc A (x31).fst (x31).snd))))))) (fun (x27 : D) => (bn (leavesD dcall (fun (x28 : St) => (Option.map packD (Option.bind (loadO Bool.true 6 (List.getD ((x16).fst).t 2 D.any) x28) (fun (x29 : D) => (Option.map (fun (x30 : (List D)) => (@List.cons D x29 x30)) (Option.bind (loadO Bool.false 1 (List.getD ((x16).fst).t 3 D.any) x28) (fun (x30 : D) => (Option.map (fun (x31 : (List D)) => (@List.cons D x30 x31)) (Option.bind (loadO Bool.false 1 (List.getD ((x16).fst).t 4 D.any) x28) (fun (x31 : D) => (Option.some [x31]))))))))))) ((x16).fst).df (Option.some x27) (x26).snd) fun (x28 : (Res × St)) =>
 (leaveD RetK.trunc A (x28).fst (x28).snd))))))))) (fun (x22 : D) => (bn (leavesD dcall (fun (x23 : St) => (Option.map packD (Option.bind (loadO Bool.true 6 (List.getD ((x16).fst).t 2 D.any) x23) (fun (x24 : D) => (Option.map (fun (x25 : (List D)) => (@List.cons D x24 x25)) (Option.bind (loadO Bool.false 1 (List.getD ((x16).fst).t 3 D.any) x23) (fun (x25 : D) => (Option.map (fun (x26 : (List D)) => (@List.cons D x25 x26)) (Option.bind (loadO Bool.false 1 (List.getD ((x16).fst).t 4 D.any) x23) (fun (x26 : D) => (Option.some [x26]))))))))))) ((x16).fst).df (Option.some x22) (x21).snd) fun (x23 : (Res × St)) =>
 (leaveD RetK.trunc A (x23).fst (x23).snd)))))))))) (fun (x16 : (Res × St)) => (Option.some x16)) x15)))))))))))))))))
theorem r11 (a0 : D) (A : St) : Run Try.prog codecH 11 [a0] A = f11 (Run Try.prog codecH) (Dcall Try.prog codecH) a0 A := by
  rw [Run_eqK (J := k11)]
  kernel_rfl
noncomputable def f14 (call : (FuncId → ((List D) → (St → ORes)))) (dcall : (D → ((List D) → ((Option D) → (St → (Option ((Option D) × St))))))) (A : St) : (Option (Res × St)) :=
  (bn (call 9 [(D.agg [(D.int IntKind.u8 (1 : Int)), (D.int IntKind.u32 (5 : Int)), (D.int IntKind.u32 (0 : Int)), (D.int IntKind.u64 (0 : Int)), (D.int IntKind.u64 (0 : Int)), (D.sl Own.full 0 [])])] A) fun (x0 : (Res × St)) =>
 (Res.elim (x0).fst (fun (x1 : D) => (bn (extractD x1 0) fun (x2 : D) =>
 (bn (extractD x1 1) fun (x3 : D) =>
 (bn (call 11 [x2] (x0).snd) fun (x4 : (Res × St)) =>
 (Res.elim (x4).fst (fun (x5 : D) => (bn (extractD x5 0) fun (x6 : D) =>
 (bn (extractD x5 1) fun (x7 : D) =>
 (bn (extractD x5 2) fun (x8 : D) =>
 (bn (allocO [(D.int IntKind.u8 (0 : Int)), (D.int IntKind.u32 (0 : Int)), (D.int IntKind.u32 (0 : Int)), (D.int IntKind.u64 (0 : Int)), (D.int IntKind.u64 (0 : Int)), (D.sl Own.full 0 [])] (x4).snd) fun (x9 : (D × St)) =>
 (bn (Option.map (fun (x10 : St) => ((D.tup []), x10)) (storeO Bool.true 6 (x9).fst x6 (x9).snd)) fun (x10 : (D × St)) =>
 (bn (binO BinOp.eql 3 Bool.true x3 (D.int IntKind.i64 (0 : Int))) fun (x11 : D) =>
 (bn (guardB Bool.true x11) fun (x12 : Bool) =>
 (bn (ifb x12 (Option.some x8)
 (Option.some (D.tup []))) fun (x13 : D) =>
 (bn (guardB Bool.true x11) fun (x14 : Bool) =>
 (bn (ifb x14 (binO BinOp.eql 3 Bool.true x13 (D.int IntKind.i64 (0 : Int)))
 (Option.some (D.tup []))) fun (x15 : D) =>
 (bn (Option.map (fun (x16 : Bool) => (ifb x16 x15
 (D.bool Bool.false))) (D.bool? x11)) fun (x16 : D) =>
 (bn (guardB Bool.true x16) fun (x17 : Bool) =>
 (bn (ifb x17 (Option.some x2)
 (Option.some (D.tup []))) fun (x18 : D) =>
 (bn (guardB Bool.true x16) fun (x19 : Bool) =>
 (bn (ifb x19 (lenSlO x18)
 (Option.some (D.tup []))) fun (x20 : D) =>
 (bn (guardB Bool.true x16) fun (x21 : Bool) =>
 (bn (ifb x21 (binO BinOp.eql 3 Bool.true x20 (D.int IntKind.i64 (30 : Int)))
 (Option.some (D.tup []))) fun (x22 : D) =>
 (bn (Option.map (fun (x23 : Bool) => (ifb x23 x22
 (D.bool Bool.false))) (D.bool? x16)) fun (x23 : D) =>
 (bn (guardB Bool.true x23) fun (x24 : Bool) =>
 (bn (ifb x24 (Option.some x2)
 (Option.some (D.tup []))) fun (x25 : D) =>
 (bn (guardB Bool.true x23) fun (x26 : Bool) =>
 (bn (ifb x26 (indexAddrO 1 Bool.false x25 (D.int IntKind.i64 (0 : Int)))
 (Option.some (D.tup []))) fun (x27 : D) =>
 (bn (guardB Bool.true x23) fun (x28 : Bool) =>
 (bn (ifb x28 (Option.map (fun (x29 : D) => (x29, (x10).snd)) (loadO Bool.false 1 x27 (x10).snd))
 (Option.some ((D.tup []), (x10).snd))) fun (x29 : (D × St)) =>
 (bn (guardB Bool.true x23) fun (x30 : Bool) =>
 (bn (ifb x30 (binO BinOp.eql 3 Bool.true (x29).fst (D.int IntKind.u8 (70 : Int)))
 (Option.some (D.tup []))) fun (x31 : D) =>
 (bn (Option.map (fun (x32 : Bool) => (ifb x32 x31
 (D.bool Bool.false))) (D.bool? x23)) fun (x32 : D) =>
 (bn (guardB Bool.true x32) fun (x33 : Bool) =>
 (bn (ifb x33 (Option.some x2)
 (Option.some (D.tup []))) fun (x34 : D) =>
 (bn (guardB Bool.true x32) fun (x35 : Bool) =>
 (bn (ifb x35 (indexAddrO 1 Bool.false x34 (D.int IntKind.i64 (1 : Int)))
 (Option.some (D.tup []))) fun (x36 : D) =>
 (bn (guardB Bool.true x32) fun (x37 : Bool) =>
 (bn (ifb x37 (Option.map (fun (x38 : D) => (x38, (x29).snd)) (loadO Bool.false 1 x36 (x29).snd))
 (Option.some ((D.tup []), (x29).snd))) fun (x38 : (D × St)) =>
 (bn (guardB Bool.true x32) fun (x39 : Bool) =>
 (bn (ifb x39 (binO BinOp.eql 3 Bool.true (x38).fst (D.int IntKind.u8 (1 : Int)))
 (Option.some (D.tup []))) fun (x40 : D) =>
 (bn (Option.map (fun (x41 : Bool) => (ifb x41 x40
 (D.bool Bool.false))) (D.bool? x32)) fun (x41 : D) =>
 (bn (guardB Bool.true x41) fun (x42 : Bool) =>
 (bn (ifb x42 (Option.some x2)
 (Option.some (D.tup []))) fun (x43 : D) =>
 (bn (guardB Bool.true x41) fun (x44 : Bool) =>
 (bn (ifb x44 (indexAddrO 1 Bool.false x43 (D.int IntKind.i64 (5 : Int)))
 (Option.some (D.tup []))) fun (x45 : D) =>
 (bn (guardB Bool.true x41) fun (x46 : Bool) =>
 (bn (ifb x46 (Option.map (fun (x47 : D) => (x47, (x38).snd)) (loadO Bool.false 1 x45 (x38).snd))
 (Option.some ((D.tup []), (x38).snd))) fun (x47 : (D × St)) =>
 (bn (guardB Bool.true x41) fun (x48 : Bool) =>
 (bn (ifb x48 (binO BinOp.eql 3 Bool.true (x47).fst (D.int IntKind.u8 (5 : Int)))
 (Option.some (D.tup []))) fun (x49 : D) =>
 (bn (Option.map (fun (x50 : Bool) => (ifb x50 x49
 (D.bool Bool.false))) (D.bool? x41)) fun (x50 : D) =>
 (bn (guardB Bool.true x50) fun (x51 : Bool) =>
 (bn (ifb x51 (fieldAddrO 1 (x9).fst)
 (Option.some (D.tup []))) fun (x52 : D) =>
 (bn (guardB Bool.true x50) fun (x53 : Bool) =>
 (bn (ifb x53 (Option.map (fun (x54 : D) => (x54, (x47).snd)) (loadO Bool.false 1 x52 (x47).snd))
 (Option.some ((D.tup []), (x47).snd))) fun (x54 : (D × St)) =>
 (bn (guardB Bool.true x50) fun (x55 : Bool) =>
 (bn (ifb x55 (binO BinOp.eql 3 Bool.true (x54).fst (D.int IntKind.u32 (5 : Int)))
 (Option.some (D.tup []))) fun (x56 : D) =>
 (bn (Option.map (fun (x57 : Bool) => (ifb x57 x56
 (D.bool Bool.false))) (D.bool? x50)) fun (x57 : D) =>
 (leaveD RetK.trunc A (Res.ret x57) (x54).snd)))))))))))))))))))))))))))))))))))))))))))))))))))))) (fun (x5 : D) => (leaveD RetK.trunc A (Res.pan x5) (x4).snd))))))) (fun (x1 : D) => (leaveD RetK.trunc A (Res.pan x1) (x0).snd))))
theorem r14 (A : St) : Run Try.prog codecH 14 [] A = f14 (Run Try.prog codecH) (Dcall Try.prog codecH)  A := by
  rw [Run_eqK (J := k14)]
  kernel_rfl
noncomputable def f3 (call : (FuncId → ((List D) → (St → ORes)))) (dcall : (D → ((List D) → ((Option D) → (St → (Option ((Option D) × St))))))) (a0 : D) (a1 : D) (A : St) : (Option (Res × St)) :=
  (bn (boxO Bool.true a0 A) fun (x0 : (D × St)) =>
 (bn (Option.map (fun (x1 : D) => (x1, (x0).snd)) (loadO Bool.true 6 (x0).fst (x0).snd)) fun (x1 : (D × St)) =>
 (bn (call 9 [(x1).fst] (x1).snd) fun (x2 : (Res × St)) =>
 (Res.elim (x2).fst (fun (x3 : D) => (bn (extractD x3 0) fun (x4 : D) =>
 (bn (extractD x3 1) fun (x5 : D) =>
 (bn (Option.map (fun (x6 : D) => (x6, (x2).snd)) (loadO Bool.true 6 (x0).fst (x2).snd)) fun (x6 : (D × St)) =>
 (bn (call 10 [(x6).fst] (x6).snd) fun (x7 : (Res × St)) =>
 (Res.elim (x7).fst (fun (x8 : D) => (bn (extractD x8 0) fun (x9 : D) =>
 (bn (extractD x8 1) fun (x10 : D) =>
 (bn (call 11 [a1] (x7).snd) fun (x11 : (Res × St)) =>
 (Res.elim (x11).fst (fun (x12 : D) => (bn (extractD x12 0) fun (x13 : D) =>
 (bn (extractD x12 1) fun (x14 : D) =>
 (bn (extractD x12 2) fun (x15 : D) =>
 (bn (allocO [(D.int IntKind.u8 (0 : Int)), (D.int IntKind.u32 (0 : Int)), (D.int IntKind.u32 (0 : Int)), (D.int IntKind.u64 (0 : Int)), (D.int IntKind.u64 (0 : Int)), (D.sl Own.full 0 [])] (x11).snd) fun (x16 : (D × St)) =>
 (bn (Option.map (fun (x17 : St) => ((D.tup []), x17)) (storeO Bool.true 6 (x16).fst x13 (x16).snd)) fun (x17 : (D × St)) =>
 (bn (call 12 [a1] (x17).snd) fun (x18 : (Res × St)) =>
 (Res.elim (x18).fst (fun (x19 : D) => (bn (extractD x19 0) fun (x20 : D) =>
 (bn (extractD x19 1) fun (x21 : D) =>
 (bn (extractD x19 2) fun (x22 : D) =>
 (bn (allocO [(D.int IntKind.u8 (0 : Int)), (D.int IntKind.u32 (0 : Int)), (D.int IntKind.u32 (0 : Int)), (D.int IntKind.u64 (0 : Int)), (D.int IntKind.u64 (0 : Int)), (D.sl Own.full 0 [])] (x18).snd) fun (x23 : (D × St)) =>
 (bn (Option.map (fun (x24 : St) => ((D.tup []), x24)) (storeO Bool.true 6 (x23).fst x20 (x23).snd)) fun (x24 : (D × St)) =>
 (bn (convO ConvK.bytesStr x4) fun (x25 : D) =>
 (bn (convO ConvK.bytesStr x9) fun (x26 : D) =>
 (bn (binO BinOp.eql 3 Bool.false x25 x26) fun (x27 : D) =>
 (bn (guardB Bool.true x27) fun (x28 : Bool) =>
 (bn (ifb x28 (Option.some x5)
 (Option.some (D.tup []))) fun (x29 : D) =>
 (bn (guardB Bool.true x27) fun (x30 : Bool) =>
 (bn (ifb x30 (Option.some x10)
 (Option.some (D.tup []))) fun (x31 : D) =>
 (bn (guardB Bool.true x27) fun (x32 : Bool) =>
 (bn (ifb x32 (binO BinOp.eql 3 Bool.false x29 x31)
 (Option.some (D.tup []))) fun (x33 : D) =>
 (bn (Option.map (fun (x34 : Bool) => (ifb x34 x33
 (D.bool Bool.false))) (D.bool? x27)) fun (x34 : D) =>
 (bn (guardB Bool.true x34) fun (x35 : Bool) =>
 (bn (ifb x35 (Option.map (fun (x36 : D) => (x36, (x24).snd)) (loadO Bool.true 6 (x16).fst (x24).snd))
 (Option.some ((D.tup []), (x24).snd))) fun (x36 : (D × St)) =>
 (bn (guardB Bool.true x34) fun (x37 : Bool) =>
 (bn (ifb x37 (Option.map (fun (x38 : D) => (x38, (x36).snd)) (loadO Bool.true 6 (x23).fst (x36).snd))
 (Option.some ((D.tup []), (x36).snd))) fun (x38 : (D × St)) =>
 (bn (guardB Bool.true x34) fun (x39 : Bool) =>
 (bn (ifb x39 (call 13 [(x36).fst, (x38).fst] (x38).snd)
 (Option.some ((Res.ret (D.tup [])), (x38).snd))) fun (x40 : (Res × St)) =>
 (Res.elim (x40).fst (fun (x41 : D) => (bn (Option.map (fun (x42 : Bool) => (ifb x42 x41
 (D.bool Bool.false))) (D.bool? x34)) fun (x42 : D) =>
 (bn (guardB Bool.true x42) fun (x43 : Bool) =>
 (bn (ifb x43 (Option.some x14)
 (Option.some (D.tup []))) fun (x44 : D) =>
 (bn (guardB Bool.true x42) fun (x45 : Bool) =>
 (bn (ifb x45 (Option.some x21)
 (Option.some (D.tup []))) fun (x46 : D) =>
 (bn (guardB Bool.true x42) fun (x47 : Bool) =>
 (bn (ifb x47 (binO BinOp.eql 3 Bool.false x44 x46)
 (Option.some (D.tup []))) fun (x48 : D) =>
 (bn (Option.map (fun (x49 : Bool) => (ifb x49 x48
 (D.bool Bool.false))) (D.bool? x42)) fun (x49 : D) =>
 (bn (guardB Bool.true x49) fun (x50 : Bool) =>
 (bn (ifb x50 (Option.some x15)
 (Option.some (D.tup []))) fun (x51 : D) =>
 (bn (guardB Bool.true x49) fun (x52 : Bool) =>
 (bn (ifb x52 (Option.some x22)
 (Option.some (D.tup []))) fun (x53 : D) =>
 (bn (guardB Bool.true x49) fun (x54 : Bool) =>
 (bn (ifb x54 (binO BinOp.eql 3 Bool.false x51 x53)
 (Option.some (D.tup []))) fun (x55 : D) =>
 (bn (Option.map (fun (x56 : Bool) => (ifb x56 x55
 (D.bool Bool.false))) (D.bool? x49)) fun (x56 : D) =>
 (bn (guardB Bool.true x56) fun (x57 : Bool) =>
 (bn (ifb x57 (call 14 [] (x40).snd)
 (Option.some ((Res.ret (D.tup [])), (x40).snd))) fun (x58 : (Res × St)) =>
 (Res.elim (x58).fst (fun (x59 : D) => (bn (Option.map (fun (x60 : Bool) => (ifb x60 x59
 (D.bool Bool.false))) (D.bool? x56)) fun (x60 : D) =>
 (leaveD RetK.trunc A (Res.ret x60) (x58).snd))) (fun (x59 : D) => (leaveD RetK.trunc A (Res.pan x59) (x58).snd))))))))))))))))))))) (fun (x41 : D) => (leaveD RetK.trunc A (Res.pan x41) (x40).snd))))))))))))))))))))))))) (fun (x19 : D) => (leaveD RetK.trunc A (Res.pan x19) (x18).snd)))))))))) (fun (x12 : D) => (leaveD RetK.trunc A (Res.pan x12) (x11).snd))))))) (fun (x8 : D) => (leaveD RetK.trunc A (Res.pan x8) (x7).snd)))))))) (fun (x3 : D) => (leaveD RetK.trunc A (Res.pan x3) (x2).snd))))))
theorem r3 (a0 a1 : D) (A : St) : Run Try.prog codecH 3 [a0, a1] A = f3 (Run Try.prog codecH) (Dcall Try.prog codecH) a0 a1 A := by
  rw [Run_eqK (J := k3)]
  kernel_rfl
noncomputable def f23_s0 (call : (FuncId → ((List D) → (St → ORes)))) (dcall : (D → ((List D) → ((Option D) → (St → (Option ((Option D) × St))))))) (A : St) (e : Env) (Av4 : St) : (Option ((Env × St) ⊕ ((Env × St) ⊕ (Res × St)))) :=
  (bn (binO BinOp.geq 3 Bool.true (List.getD (e).t 8 D.any) (D.int IntKind.i64 (0 : Int))) fun (x0 : D) =>
 (bn (D.bool? x0) fun (x1 : Bool) =>
 (ifb x1 (bn (nilCheckD (List.getD (e).t 0 D.any)) fun (x2 : D) =>
 (bn (fieldAddrO 0 x2) fun (x3 : D) =>
 (bn (Option.map (fun (x4 : (D × St)) => (x4).fst) (Option.map (fun (x4 : D) => (x4, Av4)) (loadO Bool.false 1 x3 Av4))) fun (x4 : D) =>
 (bn (binO BinOp.mul 3 Bool.true (D.int IntKind.i64 (8 : Int)) (List.getD (e).t 8 D.any)) fun (x5 : D) =>
 (bn (binO BinOp.shr 3 Bool.false (List.getD (e).t 7 D.any) x5) fun (x6 : D) =>
 (bn (convO (ConvK.int IntKind.u8) x6) fun (x7 : D) =>
 (bn (Option.map (fun (x8 : (D × St)) => (x8).fst) (Option.map (fun (x8 : D) => (x8, [])) (Option.map (D.sl Own.full 1) (sliceParts 1 Bool.false 0 [(0, x7)])))) fun (x8 : D) =>
 (bn (appendO 1 1 x4 x8 Av4) fun (x9 : (D × St)) =>
 (bn (nilCheckD (List.getD (e).t 0 D.any)) fun (x10 : D) =>
 (bn (fieldAddrO 0 x10) fun (x11 : D) =>
 (bn (Option.map (fun (x12 : St) => ((D.tup []), x12)) (storeO Bool.false 1 x11 (x9).fst (x9).snd)) fun (x12 : (D × St)) =>
 (guardP True (bn (binO BinOp.sub 3 Bool.true (List.getD (e).t 8 D.any) (D.int IntKind.i64 (1 : Int))) fun (x13 : D) =>
 (guardP (Kept Av4 (x12).snd) (Option.some (Sum.inl ((Env.mk [(D.shut (List.length Av4) (List.getD (e).t 0 D.any)), (D.shut (List.length Av4) (List.getD (e).t 1 D.any)), D.any, D.any, D.any, D.any, D.any, (D.shut (List.length Av4) (List.getD (e).t 7 D.any)), (D.shut (List.length Av4) x13), (D.shut (List.length Av4) (List.getD (e).t 9 D.any)), (D.shut (List.length Av4) (List.getD (e).t 10 D.any)), (D.shut (List.length Av4) (List.getD (e).t 11 D.any)), D.any, D.any, D.any, D.any, D.any, D.any, D.any, D.any, D.any, D.any, D.any, D.any, D.any, D.any, D.any, D.any, D.any, D.any, D.any, D.any, D.any, D.any, D.any, D.any] (List.map (fun (x14 : (D × (List D))) => ((D.shut (List.length Av4) x14.1), (D.shutL (List.length Av4) x14.2))) (e).df)), (List.take (List.length Av4) (x12).snd))))))))))))))))))
 (Option.map (Sum.inr ) (bn (binO BinOp.add 3 Bool.true (List.getD (e).t 11 D.any) (D.int IntKind.i64 (1 : Int))) fun (x2 : D) =>
 (guardP (Kept A Av4) (Option.some (Sum.inl ((Env.mk [(D.shut (List.length A) (List.getD (e).t 0 D.any)), (D.shut (List.length A) (List.getD (e).t 1 D.any)), D.any, D.any, D.any, D.any, D.any, D.any, D.any, (D.shut (List.length A) (List.getD (e).t 9 D.any)), (D.shut (List.length A) (List.getD (e).t 10 D.any)), (D.shut (List.length A) x2), D.any, D.any, D.any, D.any, D.any, D.any, D.any, D.any, D.any, D.any, D.any, D.any, D.any, D.any, D.any, D.any, D.any, D.any, D.any, D.any, D.any, D.any, D.any, D.any] (List.map (fun (x3 : (D × (List D))) => ((D.shut (List.length A) x3.1), (D.shutL (List.length A) x3.2))) (e).df)), (List.take (List.length A) Av4))))))))))
noncomputable def f23_s1 (call : (FuncId → ((List D) → (St → ORes)))) (dcall : (D → ((List D) → ((Option D) → (St → (Option ((Option D) × St))))))) (A : St) (e : Env) (Av4 : St) : (Option ((Env × St) ⊕ (Res × St))) :=
  (bn (binO BinOp.lss 3 Bool.false (List.getD (e).t 11 D.any) (List.getD (e).t 10 D.any)) fun (x0 : D) =>
 (bn (D.bool? x0) fun (x1 : Bool) =>
 (ifb x1 (bn (indexAddrO 1 Bool.false (List.getD (e).t 9 D.any) (List.getD (e).t 11 D.any)) fun (x2 : D) =>
 (bn (Option.map (fun (x3 : D) => (x3, Av4)) (loadO Bool.false 1 x2 Av4)) fun (x3 : (D × St)) =>
 (bn (binO BinOp.sub 3 Bool.true (List.getD (e).t 1 D.any) (D.int IntKind.i64 (1 : Int))) fun (x4 : D) =>
 (iterK (f23_s0 call dcall Av4) (Env.mk [(List.getD (e).t 0 D.any), (List.getD (e).t 1 D.any), D.any, D.any, D.any, D.any, D.any, (x3).fst, x4, (List.getD (e).t 9 D.any), (List.getD (e).t 10 D.any), (List.getD (e).t 11 D.any), D.any, D.any, D.any, D.any, D.any, D.any, D.any, D.any, D.any, D.any, D.any, D.any, D.any, D.any, D.any, D.any, D.any, D.any, D.any, D.any, D.any, D.any, D.any, D.any] (e).df) (x3).snd))))
 (Option.map (Sum.inr ) (bn (leavesD dcall (fun (x2 : St) => (Option.some (D.tup []))) (e).df none Av4) fun (x2 : (Res × St)) =>
 (leaveD RetK.trunc A (x2).fst (x2).snd))))))
noncomputable def f23 (call : (FuncId → ((List D) → (St → ORes)))) (dcall : (D → ((List D) → ((Option D) → (St → (Option ((Option D) × St))))))) (a0 : D) (a1 : D) (a2 : D) (A : St) : (Option (Res × St)) :=
  (bn (lenSlO a2) fun (x0 : D) =>
 (iterK (f23_s1 call dcall A) (Env.mk [a0, a1, D.any, D.any, D.any, D.any, D.any, D.any, D.any, a2, x0, (D.int IntKind.i64 (0 : Int)), D.any, D.any, D.any, D.any, D.any, D.any, D.any, D.any, D.any, D.any, D.any, D.any, D.any, D.any, D.any, D.any, D.any, D.any, D.any, D.any, D.any, D.any, D.any, D.any] []) A))
theorem r23 (a0 a1 a2 : D) (A : St) : Run Try.prog codecH 23 [a0, a1, a2] A = f23 (Run Try.prog codecH) (Dcall Try.prog codecH) a0 a1 a2 A := by
  rw [Run_eqK (J := k23)]
  kernel_rfl
noncomputable def f24_s0 (call : (FuncId → ((List D) → (St → ORes)))) (dcall : (D → ((List D) → ((Option D) → (St → (Option ((Option D) × St))))))) (A : St) (e : Env) (Av4 : St) : (Option ((Env × St) ⊕ (Res × St))) :=
  (bn (binO BinOp.geq 3 Bool.true (List.getD (e).t 7 D.any) (D.int IntKind.i64 (0 : Int))) fun (x0 : D) =>
 (bn (D.bool? x0) fun (x1 : Bool) =>
 (ifb x1 (bn (binO BinOp.mul 3 Bool.true (D.int IntKind.i64 (8 : Int)) (List.getD (e).t 7 D.any)) fun (x2 : D) =>
 (bn (convO (ConvK.int IntKind.u64) x2) fun (x3 : D) =>
 (bn (binO BinOp.shr 3 Bool.false (List.getD (e).t 1 D.any) x3) fun (x4 : D) =>
 (bn (convO (ConvK.int IntKind.u8) x4) fun (x5 : D) =>
 (bn (Option.map (fun (x6 : D) => (x6, Av4)) (Option.map (D.sl Own.full 1) (sliceParts 1 Bool.false 0 [(0, x5)]))) fun (x6 : (D × St)) =>
 (bn (appendO 1 1 (List.getD (e).t 0 D.any) (x6).fst (x6).snd) fun (x7 : (D × St)) =>
 (bn (binO BinOp.sub 3 Bool.true (List.getD (e).t 7 D.any) (D.int IntKind.i64 (1 : Int))) fun (x8 : D) =>
 (Option.some (Sum.inl ((Env.mk [(x7).fst, (List.getD (e).t 1 D.any), D.any, D.any, D.any, D.any, D.any, x8, D.any, D.any, D.any, D.any, D.any, D.any, D.any, D.any, D.any, D.any, D.any, D.any, D.any, D.any, D.any, D.any] (e).df), (x7).snd))))))))))
 (Option.map (Sum.inr ) (bn (leavesD dcall (fun (x2 : St) => (Option.some (List.getD (e).t 0 D.any))) (e).df none Av4) fun (x2 : (Res × St)) =>
 (leaveD RetK.own A (x2).fst (x2).snd))))))
noncomputable def f24 (call : (FuncId → ((List D) → (St → ORes)))) (dcall : (D → ((List D) → ((Option D) → (St → (Option ((Option D) × St))))))) (a0 : D) (a1 : D) (a2 : D) (A : St) : (Option (Res × St)) :=
  (bn (binO BinOp.sub 3 Bool.true a2 (D.int IntKind.i64 (1 : Int))) fun (x0 : D) =>
 (iterK (f24_s0 call dcall A) (Env.mk [a0, a1, D.any, D.any, D.any, D.any, D.any, x0, D.any, D.any, D.any, D.any, D.any, D.any, D.any, D.any, D.any, D.any, D.any, D.any, D.any, D.any, D.any, D.any] []) A))
theorem r24 (a0 a1 a2 : D) (A : St) : Run Try.prog codecH 24 [a0, a1, a2] A = f24 (Run Try.prog codecH) (Dcall Try.prog codecH) a0 a1 a2 A := by
  rw [Run_eqK (J := k24)]
  kernel_rfl
noncomputable def f27 (call : (FuncId → ((List D) → (St → ORes)))) (dcall : (D → ((List D) → ((Option D) → (St → (Option ((Option D) × St))))))) (a0 : D) (A : St) : (Option (Res × St)) :=
  (bn (Option.map D.agg (Option.bind (layCells Bool.false 1 0 [(D.int IntKind.i64 (0 : Int)), (D.int IntKind.i64 (0 : Int))] a0) (fun (x0 : (List D)) => (Option.bind (layCells Bool.false 1 1 x0 (D.int IntKind.i64 (180 : Int))) (fun (x1 : (List D)) => (Option.some x1)))))) fun (x0 : D) =>
 (leaveD RetK.trunc A (Res.pan (D.iface 69 x0)) A))
theorem r27 (a0 : D) (A : St) : Run Try.prog codecH 27 [a0] A = f27 (Run Try.prog codecH) (Dcall Try.prog codecH) a0 A := by
  rw [Run_eqK (J := k27)]
  kernel_rfl
noncomputable def f28_s0 (call : (FuncId → ((List D) → (St → ORes)))) (dcall : (D → ((List D) → ((Option D) → (St → (Option ((Option D) × St))))))) (A : St) (e : Env) (Av4 : St) : (Option ((Env × St) ⊕ (Res × St))) :=
  (bn (binO BinOp.lss 3 Bool.false (List.getD (e).t 14 D.any) (List.getD (e).t 13 D.any)) fun (x0 : D) =>
 (bn (D.bool? x0) fun (x1 : Bool) =>
 (ifb x1 (bn (indexAddrO 1 Bool.false (List.getD (e).t 12 D.any) (List.getD (e).t 14 D.any)) fun (x2 : D) =>
 (bn (Option.map (fun (x3 : D) => (x3, Av4)) (loadO Bool.false 1 x2 Av4)) fun (x3 : (D × St)) =>
 (bn (binO BinOp.shl 3 Bool.true (List.getD (e).t 5 D.any) (D.int IntKind.u64 (8 : Int))) fun (x4 : D) =>
 (bn (convO (ConvK.int IntKind.u64) (x3).fst) fun (x5 : D) =>
 (bn (binO BinOp.or 3 Bool.false x4 x5) fun (x6 : D) =>
 (bn (binO BinOp.add 3 Bool.true (List.getD (e).t 14 D.any) (D.int IntKind.i64 (1 : Int))) fun (x7 : D) =>
 (guardP (Kept Av4 (x3).snd) (Option.some (Sum.inl ((Env.mk [D.any, D.any, D.any, D.any, D.any, (D.shut (List.length Av4) x6), D.any, D.any, D.any, D.any, D.any, D.any, (D.shut (List.length Av4) (List.getD (e).t 12 D.any)), (D.shut (List.length Av4) (List.getD (e).t 13 D.any)), (D.shut (List.length Av4) x7), D.any, D.any, D.any, D.any, D.any, D.any, D.any, D.any, D.any, D.any] (List.map (fun (x8 : (D × (List D))) => ((D.shut (List.length Av4) x8.1), (D.shutL (List.length Av4) x8.2))) (e).df)), (List.take (List.length Av4) (x3).snd)))))))))))
 (Option.map (Sum.inr ) (bn (leavesD dcall (fun (x2 : St) => (Option.some (List.getD (e).t 5 D.any))) (e).df none Av4) fun (x2 : (Res × St)) =>
 (leaveD RetK.trunc A (x2).fst (x2).snd))))))
noncomputable def f28 (call : (FuncId → ((List D) → (St → ORes)))) (dcall : (D → ((List D) → ((Option D) → (St → (Option ((Option D) × St))))))) (a0 : D) (a1 : D) (A : St) : (Option (Res × St)) :=
  (bn (nilCheckD a0) fun (x0 : D) =>
 (bn (fieldAddrO 0 x0) fun (x1 : D) =>
 (bn (call 31 [x1, a1] A) fun (x2 : (Res × St)) =>
 (Res.elim (x2).fst (fun (x3 : D) => (bn (lenSlO x3) fun (x4 : D) =>
 (iterK (f28_s0 call dcall A) (Env.mk [D.any, D.any, D.any, D.any, D.any, (D.int IntKind.u64 (0 : Int)), D.any, D.any, D.any, D.any, D.any, D.any, x3, x4, (D.int IntKind.i64 (0 : Int)), D.any, D.any, D.any, D.any, D.any, D.any, D.any, D.any, D.any, D.any] []) (x2).snd))) (fun (x3 : D) => (leaveD RetK.trunc A (Res.pan x3) (x2).snd))))))
theorem r28 (a0 a1 : D) (A : St) : Run Try.prog codecH 28 [a0, a1] A = f28 (Run Try.prog codecH) (Dcall Try.prog codecH) a0 a1 A := by
  rw [Run_eqK (J := k28)]
  kernel_rfl
noncomputable def f29 (call : (FuncId → ((List D) → (St → ORes)))) (dcall : (D → ((List D) → ((Option D) → (St → (Option ((Option D) × St))))))) (a0 : D) (a1 : D) (a2 : D) (A : St) : (Option (Res × St)) :=
  (bn (nilCheckD a0) fun (x0 : D) =>
 (bn (fieldAddrO 0 x0) fun (x1 : D) =>
 (bn (fieldAddrO 1 x1) fun (x2 : D) =>
 (bn (Option.map (fun (x3 : D) => (x3, A)) (loadO Bool.false 1 x2 A)) fun (x3 : (D × St)) =>
 (bn (call 28 [a0, a1] (x3).snd) fun (x4 : (Res × St)) =>
 (Res.elim (x4).fst (fun (x5 : D) => (bn (binO BinOp.gtr 3 Bool.false x5 a2) fun (x6 : D) =>
 (bn (D.bool? x6) fun (x7 : Bool) =>
 (bn (ifb x7 (bn (call 27 [(x3).fst] (x4).snd) fun (x8 : (Res × St)) =>
 (Res.elim (x8).fst (fun (x9 : D) => (Option.some (Sum.inl ((Env.mk [a0, a1, a2, (D.tup []), (D.tup []), (D.tup []), (D.int IntKind.i64 (0 : Int)), (x3).fst, x5, a0, x0, x1, x2, (x3).fst, a0, a1, x5, x5, a2, (D.bool Bool.true), (x3).fst, x9, (D.tup []), (D.tup [])] []), (x8).snd)))) (fun (x9 : D) => (Option.map (Sum.inr ) (leaveD RetK.trunc A (Res.pan x9) (x8).snd)))))
 (Option.some (Sum.inl ((Env.mk [a0, a1, a2, (D.tup []), (D.tup []), (D.tup []), (D.int IntKind.i64 (0 : Int)), (x3).fst, x5, a0, x0, x1, x2, (x3).fst, a0, a1, x5, x5, a2, (D.bool Bool.false), (D.tup []), (D.tup []), (D.tup []), (D.tup [])] []), (x4).snd)))) fun (x8 : ((Env × St) ⊕ (Res × St))) =>
 (Sum.elim (fun (x9 : (Env × St)) => (bn (convO (ConvK.int IntKind.i64) (List.getD ((x9).fst).t 8 D.any)) fun (x10 : D) =>
 (bn (leavesD dcall (fun (x11 : St) => (Option.some x10)) ((x9).fst).df none (x9).snd) fun (x11 : (Res × St)) =>
 (leaveD RetK.trunc A (x11).fst (x11).snd)))) (fun (x9 : (Res × St)) => (Option.some x9)) x8))))) (fun (x5 : D) => (leaveD RetK.trunc A (Res.pan x5) (x4).snd))))))))
theorem r29 (a0 a1 a2 : D) (A : St) : Run Try.prog codecH 29 [a0, a1, a2] A = f29 (Run Try.prog codecH) (Dcall Try.prog codecH) a0 a1 a2 A := by
  rw [Run_eqK (J := k29)]
  kernel_rfl
noncomputable def f30 (call : (FuncId → ((List D) → (St → ORes)))) (dcall : (D → ((List D) → ((Option D) → (St → (Option ((Option D) × St))))))) (a0 : D) (A : St) : (Option (Res × St)) :=
  (bn (binO BinOp.eql 4 Bool.true a0 (D.sl Own.full 0 [])) fun (x0 : D) =>
 (bn (D.bool? x0) fun (x1 : Bool) =>
 (ifb x1 (leaveD RetK.trunc A (Res.ret (D.sl Own.full 0 [])) A)
 (bn (appendO 1 1 (D.sl Own.full 1 []) a0 A) fun (x2 : (D × St)) =>
 (leaveD RetK.trunc A (Res.ret (x2).fst) (x2).snd)))))
theorem r30 (a0 : D) (A : St) : Run Try.prog codecH0 30 [a0] A = f30 (Run Try.prog codecH0) (Dcall Try.prog codecH0) a0 A := by
  rw [Run_eqK (J := k30)]
  kernel_rfl
noncomputable def f31 (call : (FuncId → ((List D) → (St → ORes)))) (dcall : (D → ((List D) → ((Option D) → (St → (Option ((Option D) × St))))))) (a0 : D) (a1 : D) (A : St) : (Option (Res × St)) :=
  (bn (nilCheckD a0) fun (x0 : D) =>
 (bn (fieldAddrO 0 x0) fun (x1 : D) =>
 (bn (Option.map (fun (x2 : D) => (x2, A)) (loadO Bool.false 1 x1 A)) fun (x2 : (D × St)) =>
 (bn (lenSlO (x2).fst) fun (x3 : D) =>
 (bn (binO BinOp.lss 3 Bool.false x3 a1) fun (x4 : D) =>
 (bn (D.bool? x4) fun (x5 : Bool) =>
 (bn (ifb x5 (bn (nilCheckD a0) fun (x6 : D) =>
 (bn (fieldAddrO 1 x6) fun (x7 : D) =>
 (bn (Option.map (fun (x8 : D) => (x8, (x2).snd)) (loadO Bool.false 1 x7 (x2).snd)) fun (x8 : (D × St)) =>
 (bn (call 27 [(x8).fst] (x8).snd) fun (x9 : (Res × St)) =>
 (Res.elim (x9).fst (fun (x10 : D) => (Option.some (Sum.inl ((Env.mk [a0, a1, (D.tup []), (D.tup []), (D.sl Own.full 0 []), (D.tup []), a0, x0, x1, (x2).fst, x3, a1, (D.bool Bool.true), a0, x6, x7, (x8).fst, x10, (D.tup []), (D.tup []), (D.tup []), (D.tup []), (D.tup []), (D.tup []), (D.tup []), (D.tup []), (D.tup []), (D.tup []), (D.tup []), (D.tup []), (D.tup []), (D.tup []), (D.tup []), (D.tup []), (D.tup []), (D.tup []), (D.tup []), (D.tup []), (D.tup []), (D.tup []), (D.tup []), (D.tup []), (D.tup []), (D.tup [])] []), (x9).snd)))) (fun (x10 : D) => (Option.map (Sum.inr ) (leaveD RetK.trunc A (Res.pan x10) (x9).snd))))))))
 (Option.some (Sum.inl ((Env.mk [a0, a1, (D.tup []), (D.tup []), (D.sl Own.full 0 []), (D.tup []), a0, x0, x1, (x2).fst, x3, a1, (D.bool Bool.false), (D.tup []), (D.tup []), (D.tup []), (D.tup []), (D.tup []), (D.tup []), (D.tup []), (D.tup []), (D.tup []), (D.tup []), (D.tup []), (D.tup []), (D.tup []), (D.tup []), (D.tup []), (D.tup []), (D.tup []), (D.tup []), (D.tup []), (D.tup []), (D.tup []), (D.tup []), (D.tup []), (D.tup []), (D.tup []), (D.tup []), (D.tup []), (D.tup []), (D.tup []), (D.tup []), (D.tup [])] []), (x2).snd)))) fun (x6 : ((Env × St) ⊕ (Res × St))) =>
 (Sum.elim (fun (x7 : (Env × St)) => (bn (nilCheckD (List.getD ((x7).fst).t 0 D.any)) fun (x8 : D) =>
 (bn (fieldAddrO 0 x8) fun (x9 : D) =>
 (bn (Option.map (fun (x10 : D) => (x10, (x7).snd)) (loadO Bool.false 1 x9 (x7).snd)) fun (x10 : (D × St)) =>
 (bn (sliceSlO 1 (x10).fst none (Option.some (List.getD ((x7).fst).t 1 D.any)) (Option.some (List.getD ((x7).fst).t 1 D.any))) fun (x11 : D) =>
 (bn (nilCheckD (List.getD ((x7).fst).t 0 D.any)) fun (x12 : D) =>
 (bn (fieldAddrO 0 x12) fun (x13 : D) =>
 (bn (Option.map (fun (x14 : (D × St)) => (x14).fst) (Option.map (fun (x14 : D) => (x14, (x10).snd)) (loadO Bool.false 1 x13 (x10).snd))) fun (x14 : D) =>
 (bn (sliceSlO 1 x14 (Option.some (List.getD ((x7).fst).t 1 D.any)) none none) fun (x15 : D) =>
 (bn (nilCheckD (List.getD ((x7).fst).t 0 D.any)) fun (x16 : D) =>
 (bn (fieldAddrO 1 x16) fun (x17 : D) =>
 (bn (Option.map (fun (x18 : (D × St)) => (x18).fst) (Option.map (fun (x18 : D) => (x18, (x10).snd)) (loadO Bool.false 1 x17 (x10).snd))) fun (x18 : D) =>
 (bn (binO BinOp.add 3 Bool.false x18 (List.getD ((x7).fst).t 1 D.any)) fun (x19 : D) =>
 (bn (nilCheckD (List.getD ((x7).fst).t 0 D.any)) fun (x20 : D) =>
 (bn (fieldAddrO 0 x20) fun (x21 : D) =>
 (bn (Option.map (fun (x22 : St) => ((D.tup []), x22)) (storeO Bool.false 1 x21 x15 (x10).snd)) fun (x22 : (D × St)) =>
 (bn (nilCheckD (List.getD ((x7).fst).t 0 D.any)) fun (x23 : D) =>
 (bn (fieldAddrO 1 x23) fun (x24 : D) =>
 (bn (Option.map (fun (x25 : St) => ((D.tup []), x25)) (storeO Bool.false 1 x24 x19 (x22).snd)) fun (x25 : (D × St)) =>
 (guardP True (bn (leavesD dcall (fun (x26 : St) => (Option.some x11)) ((x7).fst).df none (x25).snd) fun (x26 : (Res × St)) =>
 (leaveD RetK.trunc A (x26).fst (x26).snd)))))))))))))))))))))) (fun (x7 : (Res × St)) => (Option.some x7)) x6))))))))
theorem r31 (a0 a1 : D) (A : St) : Run Try.prog codecH 31 [a0, a1] A = f31 (Run Try.prog codecH) (Dcall Try.prog codecH) a0 a1 A := by
  rw [Run_eqK (J := k31)]
  kernel_rfl
noncomputable def f32_s0 (call : (FuncId → ((List D) → (St → ORes)))) (dcall : (D → ((List D) → ((Option D) → (St → (Option ((Option D) × St))))))) (A : St) (e : Env) (Av4 : St) : (Option ((Env × St) ⊕ (Res × St))) :=
  (bn (binO BinOp.lss 3 Bool.false (List.getD (e).t 8 D.any) (List.getD (e).t 2 D.any)) fun (x0 : D) =>
 (bn (D.bool? x0) fun (x1 : Bool) =>
 (ifb x1 (bn (binO BinOp.shl 3 Bool.true (List.getD (e).t 7 D.any) (D.int IntKind.u64 (8 : Int))) fun (x2 : D) =>
 (bn (binO BinOp.add 3 Bool.false (List.getD (e).t 1 D.any) (List.getD (e).t 8 D.any)) fun (x3 : D) =>
 (bn (indexAddrO 1 Bool.false (List.getD (e).t 0 D.any) x3) fun (x4 : D) =>
 (bn (Option.map (fun (x5 : D) => (x5, Av4)) (loadO Bool.false 1 x4 Av4)) fun (x5 : (D × St)) =>
 (bn (convO (ConvK.int IntKind.u64) (x5).fst) fun (x6 : D) =>
 (bn (binO BinOp.or 3 Bool.false x2 x6) fun (x7 : D) =>
 (bn (binO BinOp.add 3 Bool.true (List.getD (e).t 8 D.any) (D.int IntKind.i64 (1 : Int))) fun (x8 : D) =>
 (guardP (Kept Av4 (x5).snd) (Option.some (Sum.inl ((Env.mk [(D.shut (List.length Av4) (List.getD (e).t 0 D.any)), (D.shut (List.length Av4) (List.getD (e).t 1 D.any)), (D.shut (List.length Av4) (List.getD (e).t 2 D.any)), D.any, D.any, D.any, D.any, (D.shut (List.length Av4) x7), (D.shut (List.length Av4) x8), D.any, D.any, D.any, D.any, D.any, D.any, D.any, D.any, D.any, D.any, D.any, D.any, D.any, D.any, D.any, D.any] (List.map (fun (x9 : (D × (List D))) => ((D.shut (List.length Av4) x9.1), (D.shutL (List.length Av4) x9.2))) (e).df)), (List.take (List.length Av4) (x5).snd))))))))))))
 (Option.map (Sum.inr ) (bn (leavesD dcall (fun (x2 : St) => (Option.some (List.getD (e).t 7 D.any))) (e).df none Av4) fun (x2 : (Res × St)) =>
 (leaveD RetK.trunc A (x2).fst (x2).snd))))))
noncomputable def f32 (call : (FuncId → ((List D) → (St → ORes)))) (dcall : (D → ((List D) → ((Option D) → (St → (Option ((Option D) × St))))))) (a0 : D) (a1 : D) (a2 : D) (A : St) : (Option (Res × St)) :=
  (iterK (f32_s0 call dcall A) (Env.mk [a0, a1, a2, D.any, D.any, D.any, D.any, (D.int IntKind.u64 (0 : Int)), (D.int IntKind.i64 (0 : Int)), D.any, D.any, D.any, D.any, D.any, D.any, D.any, D.any, D.any, D.any, D.any, D.any, D.any, D.any, D.any, D.any] []) A)
theorem r32 (a0 a1 a2 : D) (A : St) : Run Try.prog codecH 32 [a0, a1, a2] A = f32 (Run Try.prog codecH) (Dcall Try.prog codecH) a0 a1 a2 A := by
  rw [Run_eqK (J := k32)]
  kernel_rfl
noncomputable def d25n (call : (FuncId → ((List D) → (St → ORes)))) (a0 : D) (a1 : D) (A : St) : (Option ((Option D) × St)) :=
  (bn (Option.map (fun (x0 : D) => (x0, A)) (loadO Bool.false 1 a0 A)) fun (x0 : (D × St)) =>
 (bn (binO BinOp.neq 3 Bool.true (x0).fst (D.int IntKind.i64 (0 : Int))) fun (x1 : D) =>
 (bn (D.bool? x1) fun (x2 : Bool) =>
 (ifb x2 (bn (Option.map (fun (x3 : St) => ((D.tup []), x3)) (storeO Bool.true 6 a1 (D.agg [(D.int IntKind.u8 (0 : Int)), (D.int IntKind.u32 (0 : Int)), (D.int IntKind.u32 (0 : Int)), (D.int IntKind.u64 (0 : Int)), (D.int IntKind.u64 (0 : Int)), (D.sl Own.full 0 [])]) (x0).snd)) fun (x3 : (D × St)) =>
 (guardP (Kept A (x3).snd) (Option.some (none, (List.take (List.length A) (x3).snd)))))
 (guardP (Kept A (x0).snd) (Option.some (none, (List.take (List.length A) (x0).snd))))))))
theorem rd25n (a0 a1 : D) (A : St) : Dcall Try.prog codecH (.fn (.func 25) [] [a0, a1]) [] none A = d25n (Run Try.prog codecH) a0 a1 A := by
  rw [Dcall_eqK (J := k25)]
  kernel_rfl
noncomputable def d26n (call : (FuncId → ((List D) → (St → ORes)))) (a0 : D) (a1 : D) (A : St) : (Option ((Option D) × St)) :=
  (bn (D.bool? (negIf Bool.true Bool.true)) fun (x0 : Bool) =>
 (ifb x0 (bn (assertV (Option.some (D.agg [(D.int IntKind.i64 (0 : Int)), (D.int IntKind.i64 (0 : Int))])) (D.val Value.nilIface) 69 Bool.true) fun (x1 : D) =>
 (bn (extractD x1 0) fun (x2 : D) =>
 (bn (extractD x1 1) fun (x3 : D) =>
 (bn (allocO [(D.int IntKind.i64 (0 : Int)), (D.int IntKind.i64 (0 : Int))] A) fun (x4 : (D × St)) =>
 (bn (Option.map (fun (x5 : St) => ((D.tup []), x5)) (storeO Bool.true 2 (x4).fst x2 (x4).snd)) fun (x5 : (D × St)) =>
 (bn (unD UnOp.not x3) fun (x6 : D) =>
 (bn (D.bool? x6) fun (x7 : Bool) =>
 (ifb x7 (bn (Option.map (fun (x8 : Res) => (x8, (x5).snd)) (panicD (D.val Value.nilIface))) fun (x8 : (Res × St)) =>
 (Res.elim (x8).fst (fun (x9 : D) => (bn (fieldAddrO 0 (x4).fst) fun (x10 : D) =>
 (bn (Option.map (fun (x11 : (D × St)) => (x11).fst) (Option.map (fun (x11 : D) => (x11, (x8).snd)) (loadO Bool.false 1 x10 (x8).snd))) fun (x11 : D) =>
 (bn (fieldAddrO 1 (x4).fst) fun (x12 : D) =>
 (bn (Option.map (fun (x13 : (D × St)) => (x13).fst) (Option.map (fun (x13 : D) => (x13, (x8).snd)) (loadO Bool.false 1 x12 (x8).snd))) fun (x13 : D) =>
 (bn (nilCheckD a0) fun (x14 : D) =>
 (bn (Option.map (fun (x15 : St) => ((D.tup []), x15)) (storeO Bool.false 1 x14 x11 (x8).snd)) fun (x15 : (D × St)) =>
 (bn (nilCheckD a1) fun (x16 : D) =>
 (bn (Option.map (fun (x17 : St) => ((D.tup []), x17)) (storeO Bool.false 1 x16 x13 (x15).snd)) fun (x17 : (D × St)) =>
 (guardP ((sameAd x12 (x8).snd (x15).snd) ∧ True) (guardP (Kept A (x17).snd) (Option.some (none, (List.take (List.length A) (x17).snd)))))))))))))) (fun (x9 : D) => none)))
 (bn (fieldAddrO 0 (x4).fst) fun (x8 : D) =>
 (bn (Option.map (fun (x9 : (D × St)) => (x9).fst) (Option.map (fun (x9 : D) => (x9, (x5).snd)) (loadO Bool.false 1 x8 (x5).snd))) fun (x9 : D) =>
 (bn (fieldAddrO 1 (x4).fst) fun (x10 : D) =>
 (bn (Option.map (fun (x11 : (D × St)) => (x11).fst) (Option.map (fun (x11 : D) => (x11, (x5).snd)) (loadO Bool.false 1 x10 (x5).snd))) fun (x11 : D) =>
 (bn (nilCheckD a0) fun (x12 : D) =>
 (bn (Option.map (fun (x13 : St) => ((D.tup []), x13)) (storeO Bool.false 1 x12 x9 (x5).snd)) fun (x13 : (D × St)) =>
 (bn (nilCheckD a1) fun (x14 : D) =>
 (bn (Option.map (fun (x15 : St) => ((D.tup []), x15)) (storeO Bool.false 1 x14 x11 (x13).snd)) fun (x15 : (D × St)) =>
 (guardP ((sameAd x10 (x5).snd (x13).snd) ∧ True) (guardP (Kept A (x15).snd) (Option.some (none, (List.take (List.length A) (x15).snd)))))))))))))))))))))
 (guardP (Kept A A) (Option.some (none, (List.take (List.length A) A))))))
theorem rd26n (a0 a1 : D) (A : St) : Dcall Try.prog codecH (.fn (.func 26) [] []) [a0, a1] none A = d26n (Run Try.prog codecH) a0 a1 A := by
  rw [Dcall_eqK (J := k26)]
  kernel_rfl
noncomputable def d26p (call : (FuncId → ((List D) → (St → ORes)))) (p : D) (a0 : D) (a1 : D) (A : St) : (Option ((Option D) × St)) :=
  (bn (binO BinOp.neq 1 Bool.true p (D.val Value.nilIface)) fun (x0 : D) =>
 (bn (D.bool? x0) fun (x1 : Bool) =>
 (ifb x1 (bn (assertV (Option.some (D.agg [(D.int IntKind.i64 (0 : Int)), (D.int IntKind.i64 (0 : Int))])) p 69 Bool.true) fun (x2 : D) =>
 (bn (extractD x2 0) fun (x3 : D) =>
 (bn (extractD x2 1) fun (x4 : D) =>
 (bn (allocO [(D.int IntKind.i64 (0 : Int)), (D.int IntKind.i64 (0 : Int))] A) fun (x5 : (D × St)) =>
 (bn (Option.map (fun (x6 : St) => ((D.tup []), x6)) (storeO Bool.true 2 (x5).fst x3 (x5).snd)) fun (x6 : (D × St)) =>
 (bn (unD UnOp.not x4) fun (x7 : D) =>
 (bn (D.bool? x7) fun (x8 : Bool) =>
 (ifb x8 (bn (Option.map (fun (x9 : Res) => (x9, (x6).snd)) (panicD p)) fun (x9 : (Res × St)) =>
 (Res.elim (x9).fst (fun (x10 : D) => (bn (fieldAddrO 0 (x5).fst) fun (x11 : D) =>
 (bn (Option.map (fun (x12 : (D × St)) => (x12).fst) (Option.map (fun (x12 : D) => (x12, (x9).snd)) (loadO Bool.false 1 x11 (x9).snd))) fun (x12 : D) =>
 (bn (fieldAddrO 1 (x5).fst) fun (x13 : D) =>
 (bn (Option.map (fun (x14 : (D × St)) => (x14).fst) (Option.map (fun (x14 : D) => (x14, (x9).snd)) (loadO Bool.false 1 x13 (x9).snd))) fun (x14 : D) =>
 (bn (nilCheckD a0) fun (x15 : D) =>
 (bn (Option.map (fun (x16 : St) => ((D.tup []), x16)) (storeO Bool.false 1 x15 x12 (x9).snd)) fun (x16 : (D × St)) =>
 (bn (nilCheckD a1) fun (x17 : D) =>
 (bn (Option.map (fun (x18 : St) => ((D.tup []), x18)) (storeO Bool.false 1 x17 x14 (x16).snd)) fun (x18 : (D × St)) =>
 (guardP ((sameAd x13 (x9).snd (x16).snd) ∧ True) (guardP (Kept A (x18).snd) (Option.some (none, (List.take (List.length A) (x18).snd)))))))))))))) (fun (x10 : D) => none)))
 (bn (fieldAddrO 0 (x5).fst) fun (x9 : D) =>
 (bn (Option.map (fun (x10 : (D × St)) => (x10).fst) (Option.map (fun (x10 : D) => (x10, (x6).snd)) (loadO Bool.false 1 x9 (x6).snd))) fun (x10 : D) =>
 (bn (fieldAddrO 1 (x5).fst) fun (x11 : D) =>
 (bn (Option.map (fun (x12 : (D × St)) => (x12).fst) (Option.map (fun (x12 : D) => (x12, (x6).snd)) (loadO Bool.false 1 x11 (x6).snd))) fun (x12 : D) =>
 (bn (nilCheckD a0) fun (x13 : D) =>
 (bn (Option.map (fun (x14 : St) => ((D.tup []), x14)) (storeO Bool.false 1 x13 x10 (x6).snd)) fun (x14 : (D × St)) =>
 (bn (nilCheckD a1) fun (x15 : D) =>
 (bn (Option.map (fun (x16 : St) => ((D.tup []), x16)) (storeO Bool.false 1 x15 x12 (x14).snd)) fun (x16 : (D × St)) =>
 (guardP ((sameAd x11 (x6).snd (x14).snd) ∧ True) (guardP (Kept A (x16).snd) (Option.some (none, (List.take (List.length A) (x16).snd)))))))))))))))))))))
 (guardP (Kept A A) (Option.some (none, (List.take (List.length A) A)))))))
theorem rd26p (p a0 a1 : D) (A : St) : Dcall Try.prog codecH (.fn (.func 26) [] []) [a0, a1] (some p) A = d26p (Run Try.prog codecH) p a0 a1 A := by
  rw [Dcall_eqK (J := k26)]
  kernel_rfl
noncomputable def d33n (call : (FuncId → ((List D) → (St → ORes)))) (a0 : D) (a1 : D) (A : St) : (Option ((Option D) × St)) :=
  (bn (Option.map (fun (x0 : D) => (x0, A)) (loadO Bool.false 1 a0 A)) fun (x0 : (D × St)) =>
 (bn (binO BinOp.neq 3 Bool.true (x0).fst (D.int IntKind.i64 (0 : Int))) fun (x1 : D) =>
 (bn (D.bool? x1) fun (x2 : Bool) =>
 (ifb x2 (bn (Option.map (fun (x3 : St) => ((D.tup []), x3)) (storeO Bool.true 4 a1 (D.agg [(D.int IntKind.i64 (0 : Int)), (D.int IntKind.i64 (0 : Int)), (D.sl Own.full 0 []), (D.sl Own.full 0 [])]) (x0).snd)) fun (x3 : (D × St)) =>
 (guardP (Kept A (x3).snd) (Option.some (none, (List.take (List.length A) (x3).snd)))))
 (guardP (Kept A (x0).snd) (Option.some (none, (List.take (List.length A) (x0).snd))))))))
theorem rd33n (a0 a1 : D) (A : St) : Dcall Try.prog codecH (.fn (.func 33) [] [a0, a1]) [] none A = d33n (Run Try.prog codecH) a0 a1 A := by
  rw [Dcall_eqK (J := k33)]
  kernel_rfl
end Go.Vm.Codec
