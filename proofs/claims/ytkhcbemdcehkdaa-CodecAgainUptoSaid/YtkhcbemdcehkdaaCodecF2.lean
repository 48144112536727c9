/- Written by a program: what the abstract run of each function comes to, one definition a function, and its equation. -/
import Derived.Test.YtkhcbemdcehkdaaCodecH
import Derived.KernelRfl
set_option linter.all false
namespace Go.Vm.Codec
open Go.Proofs
set_option maxRecDepth 100000
set_option linter.unusedVariables false
set_option maxHeartbeats 0
noncomputable def f15 (call : (FuncId → ((List D) → (St → ORes)))) (dcall : (D → ((List D) → ((Option D) → (St → (Option ((Option D) × St))))))) (a0 : D) (A : St) : (Option (Res × St)) :=
  (bn (allocO [(D.int IntKind.i64 (0 : Int)), (D.int IntKind.i64 (0 : Int)), (D.sl Own.full 0 []), (D.sl Own.full 0 [])] A) fun (x0 : (D × St)) =>
 (bn (allocO [(D.int IntKind.i64 (0 : Int))] (x0).snd) fun (x1 : (D × St)) =>
 (bn (allocO [(D.int IntKind.i64 (0 : Int))] (x1).snd) fun (x2 : (D × St)) =>
 (bn (lenSlO a0) fun (x3 : D) =>
 (bn (binO BinOp.gtr 3 Bool.true x3 (D.int IntKind.i64 (1048576 : Int))) fun (x4 : D) =>
 (bn (D.bool? x4) fun (x5 : Bool) =>
 (bn (ifb x5 (Option.map (Sum.inr ) (bn (leavesD dcall (fun (x6 : St) => (Option.map packD (Option.bind (loadO Bool.true 4 (x0).fst x6) (fun (x7 : D) => (Option.map (fun (x8 : (List D)) => (@List.cons D x7 x8)) (Option.bind (loadO Bool.false 1 (x1).fst x6) (fun (x8 : D) => (Option.map (fun (x9 : (List D)) => (@List.cons D x8 x9)) (Option.bind (loadO Bool.false 1 (x2).fst x6) (fun (x9 : D) => (Option.some [x9]))))))))))) [((D.fn (Fn.func 26) [] []), [(x1).fst, (x2).fst]), ((D.fn (Fn.func 33) [] [(x2).fst, (x0).fst]), [])] (Option.some (D.iface 69 (D.agg [(D.int IntKind.i64 (0 : Int)), (D.int IntKind.i64 (2 : Int))]))) (x2).snd) fun (x6 : (Res × St)) =>
 (leaveD RetK.trunc A (x6).fst (x6).snd)))
 (Option.some (Sum.inl ((Env.mk [a0, (D.tup []), (x0).fst, (x1).fst, (x2).fst, (D.tup []), (D.fn (Fn.func 33) [] [(x2).fst, (x0).fst]), a0, x3, (D.bool Bool.false), (D.tup []), (D.tup []), (D.tup []), (D.tup []), (D.tup []), (D.tup []), (D.tup []), (D.tup []), (D.tup []), (D.tup []), (D.tup []), (D.tup []), (D.tup []), (D.tup []), (D.tup []), (D.tup []), (D.tup []), (D.tup []), (D.tup []), (D.tup []), (D.tup []), (D.tup []), (D.tup []), (D.tup []), (D.tup []), (D.tup []), (D.tup []), (D.tup []), (D.tup []), (D.tup []), (D.tup []), (D.tup []), (D.tup []), (D.tup []), (D.tup []), (D.tup []), (D.tup []), (D.tup []), (D.tup []), (D.tup []), (D.tup []), (D.tup []), (D.tup [])] [((D.fn (Fn.func 26) [] []), [(x1).fst, (x2).fst]), ((D.fn (Fn.func 33) [] [(x2).fst, (x0).fst]), [])]), (x2).snd)))) fun (x6 : ((Env × St) ⊕ (Res × St))) =>
 (Sum.elim (fun (x7 : (Env × St)) => (bn (lenSlO (List.getD ((x7).fst).t 0 D.any)) fun (x8 : D) =>
 (bn (binO BinOp.eql 3 Bool.true x8 (D.int IntKind.i64 (0 : Int))) fun (x9 : D) =>
 (bn (guardB Bool.false x9) fun (x10 : Bool) =>
 (bn (ifb x10 (Option.some (List.getD ((x7).fst).t 0 D.any))
 (Option.some (D.tup []))) fun (x11 : D) =>
 (bn (guardB Bool.false x9) fun (x12 : Bool) =>
 (bn (ifb x12 (indexAddrO 1 Bool.false x11 (D.int IntKind.i64 (0 : Int)))
 (Option.some (D.tup []))) fun (x13 : D) =>
 (bn (guardB Bool.false x9) fun (x14 : Bool) =>
 (bn (ifb x14 (Option.map (fun (x15 : D) => (x15, (x7).snd)) (loadO Bool.false 1 x13 (x7).snd))
 (Option.some ((D.tup []), (x7).snd))) fun (x15 : (D × St)) =>
 (bn (guardB Bool.false x9) fun (x16 : Bool) =>
 (bn (ifb x16 (binO BinOp.neq 3 Bool.true (x15).fst (D.int IntKind.u8 (82 : Int)))
 (Option.some (D.tup []))) fun (x17 : D) =>
 (bn (Option.map (fun (x18 : Bool) => (ifb x18 (D.bool Bool.true)
 x17)) (D.bool? x9)) fun (x18 : D) =>
 (bn (D.bool? x18) fun (x19 : Bool) =>
 (bn (ifb x19 (bn (call 27 [(D.int IntKind.i64 (0 : Int))] (x15).snd) fun (x20 : (Res × St)) =>
 (Res.elim (x20).fst (fun (x21 : D) => (Option.some (Sum.inl ((Env.mk [(List.getD ((x7).fst).t 0 D.any), (List.getD ((x7).fst).t 1 D.any), (List.getD ((x7).fst).t 2 D.any), (List.getD ((x7).fst).t 3 D.any), (List.getD ((x7).fst).t 4 D.any), (List.getD ((x7).fst).t 5 D.any), (List.getD ((x7).fst).t 6 D.any), (List.getD ((x7).fst).t 7 D.any), (List.getD ((x7).fst).t 8 D.any), (List.getD ((x7).fst).t 9 D.any), (List.getD ((x7).fst).t 10 D.any), (List.getD ((x7).fst).t 11 D.any), (List.getD ((x7).fst).t 0 D.any), x8, x9, x9, x11, x13, (x15).fst, x17, (D.bool Bool.true), x21, (List.getD ((x7).fst).t 22 D.any), (List.getD ((x7).fst).t 23 D.any), (List.getD ((x7).fst).t 24 D.any), (List.getD ((x7).fst).t 25 D.any), (List.getD ((x7).fst).t 26 D.any), (List.getD ((x7).fst).t 27 D.any), (List.getD ((x7).fst).t 28 D.any), (List.getD ((x7).fst).t 29 D.any), (List.getD ((x7).fst).t 30 D.any), (List.getD ((x7).fst).t 31 D.any), (List.getD ((x7).fst).t 32 D.any), (List.getD ((x7).fst).t 33 D.any), (List.getD ((x7).fst).t 34 D.any), (List.getD ((x7).fst).t 35 D.any), (List.getD ((x7).fst).t 36 D.any), (List.getD ((x7).fst).t 37 D.any), (List.getD ((x7).fst).t 38 D.any), (List.getD ((x7).fst).t 39 D.any), (List.getD ((x7).fst).t 40 D.any), (List.getD ((x7).fst).t 41 D.any), (List.getD ((x7).fst).t 42 D.any), (List.getD ((x7).fst).t 43 D.any), (List.getD ((x7).fst).t 44 D.any), (List.getD ((x7).fst).t 45 D.any), (List.getD ((x7).fst).t 46 D.any), (List.getD ((x7).fst).t 47 D.any), (List.getD ((x7).fst).t 48 D.any), (List.getD ((x7).fst).t 49 D.any), (List.getD ((x7).fst).t 50 D.any), (List.getD ((x7).fst).t 51 D.any), (List.getD ((x7).fst).t 52 D.any)] ((x7).fst).df), (x20).snd)))) (fun (x21 : D) => (Option.map (Sum.inr ) (bn (leavesD dcall (fun (x22 : St) => (Option.map packD (Option.bind (loadO Bool.true 4 (List.getD ((x7).fst).t 2 D.any) x22) (fun (x23 : D) => (Option.map (fun (x24 : (List D)) => (@List.cons D x23 x24)) (Option.bind (loadO Bool.false 1 (List.getD ((x7).fst).t 3 D.any) x22) (fun (x24 : D) => (Option.map (fun (x25 : (List D)) => (@List.cons D x24 x25)) (Option.bind (loadO Bool.false 1 (List.getD ((x7).fst).t 4 D.any) x22) (fun (x25 : D) => (Option.some [x25]))))))))))) ((x7).fst).df (Option.some x21) (x20).snd) fun (x22 : (Res × St)) =>
 (leaveD RetK.trunc A (x22).fst (x22).snd))))))
 (Option.some (Sum.inl ((Env.mk [(List.getD ((x7).fst).t 0 D.any), (List.getD ((x7).fst).t 1 D.any), (List.getD ((x7).fst).t 2 D.any), (List.getD ((x7).fst).t 3 D.any), (List.getD ((x7).fst).t 4 D.any), (List.getD ((x7).fst).t 5 D.any), (List.getD ((x7).fst).t 6 D.any), (List.getD ((x7).fst).t 7 D.any), (List.getD ((x7).fst).t 8 D.any), (List.getD ((x7).fst).t 9 D.any), (List.getD ((x7).fst).t 10 D.any), (List.getD ((x7).fst).t 11 D.any), (List.getD ((x7).fst).t 0 D.any), x8, x9, x9, x11, x13, (x15).fst, x17, (D.bool Bool.false), (List.getD ((x7).fst).t 21 D.any), (List.getD ((x7).fst).t 22 D.any), (List.getD ((x7).fst).t 23 D.any), (List.getD ((x7).fst).t 24 D.any), (List.getD ((x7).fst).t 25 D.any), (List.getD ((x7).fst).t 26 D.any), (List.getD ((x7).fst).t 27 D.any), (List.getD ((x7).fst).t 28 D.any), (List.getD ((x7).fst).t 29 D.any), (List.getD ((x7).fst).t 30 D.any), (List.getD ((x7).fst).t 31 D.any), (List.getD ((x7).fst).t 32 D.any), (List.getD ((x7).fst).t 33 D.any), (List.getD ((x7).fst).t 34 D.any), (List.getD ((x7).fst).t 35 D.any), (List.getD ((x7).fst).t 36 D.any), (List.getD ((x7).fst).t 37 D.any), (List.getD ((x7).fst).t 38 D.any), (List.getD ((x7).fst).t 39 D.any), (List.getD ((x7).fst).t 40 D.any), (List.getD ((x7).fst).t 41 D.any), (List.getD ((x7).fst).t 42 D.any), (List.getD ((x7).fst).t 43 D.any), (List.getD ((x7).fst).t 44 D.any), (List.getD ((x7).fst).t 45 D.any), (List.getD ((x7).fst).t 46 D.any), (List.getD ((x7).fst).t 47 D.any), (List.getD ((x7).fst).t 48 D.any), (List.getD ((x7).fst).t 49 D.any), (List.getD ((x7).fst).t 50 D.any), (List.getD ((x7).fst).t 51 D.any), (List.getD ((x7).fst).t 52 D.any)] ((x7).fst).df), (x15).snd)))) fun (x20 : ((Env × St) ⊕ (Res × St))) =>
 (Sum.elim (fun (x21 : (Env × St)) => (bn (sliceSlO 1 (List.getD ((x21).fst).t 0 D.any) (Option.some (D.int IntKind.i64 (1 : Int))) none none) fun (x22 : D) =>
 (bn (Option.map D.agg (Option.bind (layCells Bool.false 1 0 [(D.sl Own.full 0 []), (D.int IntKind.i64 (0 : Int))] x22) (fun (x23 : (List D)) => (Option.bind (layCells Bool.false 1 1 x23 (D.int IntKind.i64 (1 : Int))) (fun (x24 : (List D)) => (Option.some x24)))))) fun (x23 : D) =>
 (bn (Option.map D.agg (Option.bind (layCells Bool.true 2 0 [(D.sl Own.full 0 []), (D.int IntKind.i64 (0 : Int))] x23) (fun (x24 : (List D)) => (Option.some x24)))) fun (x24 : D) =>
 (bn (boxO Bool.true x24 (x21).snd) fun (x25 : (D × St)) =>
 (bn (call 29 [(x25).fst, (D.int IntKind.i64 (2 : Int)), (D.int IntKind.u64 (63 : Int))] (x25).snd) fun (x26 : (Res × St)) =>
 (Res.elim (x26).fst (fun (x27 : D) => (bn (fieldAddrO 0 (List.getD ((x21).fst).t 2 D.any)) fun (x28 : D) =>
 (bn (Option.map (fun (x29 : St) => ((D.tup []), x29)) (storeO Bool.false 1 x28 x27 (x26).snd)) fun (x29 : (D × St)) =>
 (bn (call 29 [(x25).fst, (D.int IntKind.i64 (4 : Int)), (D.int IntKind.u64 (16383 : Int))] (x29).snd) fun (x30 : (Res × St)) =>
 (Res.elim (x30).fst (fun (x31 : D) => (bn (fieldAddrO 1 (List.getD ((x21).fst).t 2 D.any)) fun (x32 : D) =>
 (bn (Option.map (fun (x33 : St) => ((D.tup []), x33)) (storeO Bool.false 1 x32 x31 (x30).snd)) fun (x33 : (D × St)) =>
 (bn (call 34 [(x25).fst] (x33).snd) fun (x34 : (Res × St)) =>
 (Res.elim (x34).fst (fun (x35 : D) => (bn (fieldAddrO 2 (List.getD ((x21).fst).t 2 D.any)) fun (x36 : D) =>
 (bn (Option.map (fun (x37 : St) => ((D.tup []), x37)) (storeO Bool.false 1 x36 x35 (x34).snd)) fun (x37 : (D × St)) =>
 (bn (call 35 [(x25).fst] (x37).snd) fun (x38 : (Res × St)) =>
 (Res.elim (x38).fst (fun (x39 : D) => (bn (fieldAddrO 3 (List.getD ((x21).fst).t 2 D.any)) fun (x40 : D) =>
 (bn (Option.map (fun (x41 : St) => ((D.tup []), x41)) (storeO Bool.false 1 x40 x39 (x38).snd)) fun (x41 : (D × St)) =>
 (bn (nilCheckD (x25).fst) fun (x42 : D) =>
 (bn (fieldAddrO 0 x42) fun (x43 : D) =>
 (bn (fieldAddrO 0 x43) fun (x44 : D) =>
 (bn (Option.map (fun (x45 : D) => (x45, (x41).snd)) (loadO Bool.false 1 x44 (x41).snd)) fun (x45 : (D × St)) =>
 (bn (lenSlO (x45).fst) fun (x46 : D) =>
 (bn (binO BinOp.gtr 3 Bool.true x46 (D.int IntKind.i64 (0 : Int))) fun (x47 : D) =>
 (bn (D.bool? x47) fun (x48 : Bool) =>
 (bn (ifb x48 (bn (nilCheckD (x25).fst) fun (x49 : D) =>
 (bn (fieldAddrO 0 x49) fun (x50 : D) =>
 (bn (fieldAddrO 1 x50) fun (x51 : D) =>
 (bn (Option.map (fun (x52 : D) => (x52, (x45).snd)) (loadO Bool.false 1 x51 (x45).snd)) fun (x52 : (D × St)) =>
 (bn (call 27 [(x52).fst] (x52).snd) fun (x53 : (Res × St)) =>
 (Res.elim (x53).fst (fun (x54 : D) => (Option.some (Sum.inl ((Env.mk [(List.getD ((x21).fst).t 0 D.any), (List.getD ((x21).fst).t 1 D.any), (List.getD ((x21).fst).t 2 D.any), (List.getD ((x21).fst).t 3 D.any), (List.getD ((x21).fst).t 4 D.any), (x25).fst, (List.getD ((x21).fst).t 6 D.any), (List.getD ((x21).fst).t 7 D.any), (List.getD ((x21).fst).t 8 D.any), (List.getD ((x21).fst).t 9 D.any), (List.getD ((x21).fst).t 10 D.any), (List.getD ((x21).fst).t 11 D.any), (List.getD ((x21).fst).t 12 D.any), (List.getD ((x21).fst).t 13 D.any), (List.getD ((x21).fst).t 14 D.any), (List.getD ((x21).fst).t 15 D.any), (List.getD ((x21).fst).t 16 D.any), (List.getD ((x21).fst).t 17 D.any), (List.getD ((x21).fst).t 18 D.any), (List.getD ((x21).fst).t 19 D.any), (List.getD ((x21).fst).t 20 D.any), (List.getD ((x21).fst).t 21 D.any), (List.getD ((x21).fst).t 0 D.any), x22, x23, x24, (x25).fst, (x25).fst, x27, x28, (x25).fst, x31, x32, (x25).fst, x35, x36, (x25).fst, x39, x40, (x25).fst, x42, x43, x44, (x45).fst, x46, (D.bool Bool.true), (x25).fst, x49, x50, x51, (x52).fst, x54, (List.getD ((x21).fst).t 52 D.any)] ((x21).fst).df), (x53).snd)))) (fun (x54 : D) => (Option.map (Sum.inr ) (bn (leavesD dcall (fun (x55 : St) => (Option.map packD (Option.bind (loadO Bool.true 4 (List.getD ((x21).fst).t 2 D.any) x55) (fun (x56 : D) => (Option.map (fun (x57 : (List D)) => (@List.cons D x56 x57)) (Option.bind (loadO Bool.false 1 (List.getD ((x21).fst).t 3 D.any) x55) (fun (x57 : D) => (Option.map (fun (x58 : (List D)) => (@List.cons D x57 x58)) (Option.bind (loadO Bool.false 1 (List.getD ((x21).fst).t 4 D.any) x55) (fun (x58 : D) => (Option.some [x58]))))))))))) ((x21).fst).df (Option.some x54) (x53).snd) fun (x55 : (Res × St)) =>
 (leaveD RetK.trunc A (x55).fst (x55).snd))))))))))
 (Option.some (Sum.inl ((Env.mk [(List.getD ((x21).fst).t 0 D.any), (List.getD ((x21).fst).t 1 D.any), (List.getD ((x21).fst).t 2 D.any), (List.getD ((x21).fst).t 3 D.any), (List.getD ((x21).fst).t 4 D.any), (x25).fst, (List.getD ((x21).fst).t 6 D.any), (List.getD ((x21).fst).t 7 D.any), (List.getD ((x21).fst).t 8 D.any), (List.getD ((x21).fst).t 9 D.any), (List.getD ((x21).fst).t 10 D.any), (List.getD ((x21).fst).t 11 D.any), (List.getD ((x21).fst).t 12 D.any), (List.getD ((x21).fst).t 13 D.any), (List.getD ((x21).fst).t 14 D.any), (List.getD ((x21).fst).t 15 D.any), (List.getD ((x21).fst).t 16 D.any), (List.getD ((x21).fst).t 17 D.any), (List.getD ((x21).fst).t 18 D.any), (List.getD ((x21).fst).t 19 D.any), (List.getD ((x21).fst).t 20 D.any), (List.getD ((x21).fst).t 21 D.any), (List.getD ((x21).fst).t 0 D.any), x22, x23, x24, (x25).fst, (x25).fst, x27, x28, (x25).fst, x31, x32, (x25).fst, x35, x36, (x25).fst, x39, x40, (x25).fst, x42, x43, x44, (x45).fst, x46, (D.bool Bool.false), (List.getD ((x21).fst).t 46 D.any), (List.getD ((x21).fst).t 47 D.any), (List.getD ((x21).fst).t 48 D.any), (List.getD ((x21).fst).t 49 D.any), (List.getD ((x21).fst).t 50 D.any), (List.getD ((x21).fst).t 51 D.any), (List.getD ((x21).fst).t 52 D.any)] ((x21).fst).df), (x45).snd)))) fun (x49 : ((Env × St) ⊕ (Res × St))) =>
 (Sum.elim (fun (x50 : (Env × St)) => (bn (Option.map (fun (x51 : D) => (x51, (x50).snd)) (loadO Bool.true 4 (List.getD ((x50).fst).t 2 D.any) (x50).snd)) fun (x51 : (D × St)) =>
 (bn (Option.map (fun (x52 : St) => ((D.tup []), x52)) (storeO Bool.true 4 (List.getD ((x50).fst).t 2 D.any) (x51).fst (x51).snd)) fun (x52 : (D × St)) =>
 (bn (Option.map (fun (x53 : St) => ((D.tup []), x53)) (storeO Bool.false 1 (List.getD ((x50).fst).t 3 D.any) (D.int IntKind.i64 (0 : Int)) (x52).snd)) fun (x53 : (D × St)) =>
 (bn (Option.map (fun (x54 : St) => ((D.tup []), x54)) (storeO Bool.false 1 (List.getD ((x50).fst).t 4 D.any) (D.int IntKind.i64 (0 : Int)) (x53).snd)) fun (x54 : (D × St)) =>
 (bn (leavesD dcall (fun (x55 : St) => (Option.map packD (Option.bind (loadO Bool.true 4 (List.getD ((x50).fst).t 2 D.any) x55) (fun (x56 : D) => (Option.map (fun (x57 : (List D)) => (@List.cons D x56 x57)) (Option.bind (loadO Bool.false 1 (List.getD ((x50).fst).t 3 D.any) x55) (fun (x57 : D) => (Option.map (fun (x58 : (List D)) => (@List.cons D x57 x58)) (Option.bind (loadO Bool.false 1 (List.getD ((x50).fst).t 4 D.any) x55) (fun (x58 : D) => (Option.some [x58]))))))))))) ((x50).fst).df none (x54).snd) fun (x55 : (Res × St)) =>
 (leaveD RetK.trunc A (x55).fst (x55).snd))))))) (fun (x50 : (Res × St)) => (Option.some x50)) x49)))))))))))) (fun (x39 : D) => (bn (leavesD dcall (fun (x40 : St) => (Option.map packD (Option.bind (loadO Bool.true 4 (List.getD ((x21).fst).t 2 D.any) x40) (fun (x41 : D) => (Option.map (fun (x42 : (List D)) => (@List.cons D x41 x42)) (Option.bind (loadO Bool.false 1 (List.getD ((x21).fst).t 3 D.any) x40) (fun (x42 : D) => (Option.map (fun (x43 : (List D)) => (@List.cons D x42 x43)) (Option.bind (loadO Bool.false 1 (List.getD ((x21).fst).t 4 D.any) x40) (fun (x43 : D) => (Option.some [x43]))))))))))) ((x21).fst).df (Option.some x39) (x38).snd) fun (x40 : (Res × St)) =>
 (leaveD RetK.trunc A (x40).fst (x40).snd)))))))) (fun (x35 : D) => (bn (leavesD dcall (fun (x36 : St) => (Option.map packD (Option.bind (loadO Bool.true 4 (List.getD ((x21).fst).t 2 D.any) x36) (fun (x37 : D) => (Option.map (fun (x38 : (List D)) => (@List.cons D x37 x38)) (Option.bind (loadO Bool.false 1 (List.getD ((x21).fst).t 3 D.any) x36) (fun (x38 : D) => (Option.map (fun (x39 : (List D)) => (@List.cons D x38 x39)) (Option.bind (loadO Bool.false 1 (List.getD ((x21).fst).t 4 D.any) x36) (fun (x39 : D) => (Option.some [x39]))))))))))) ((x21).fst).df (Option.some x35) (x34).snd) fun (x36 : (Res × St)) =>
 (leaveD RetK.trunc A (x36).fst (x36).snd)))))))) (fun (x31 : D) => (bn (leavesD dcall (fun (x32 : St) => (Option.map packD (Option.bind (loadO Bool.true 4 (List.getD ((x21).fst).t 2 D.any) x32) (fun (x33 : D) => (Option.map (fun (x34 : (List D)) => (@List.cons D x33 x34)) (Option.bind (loadO Bool.false 1 (List.getD ((x21).fst).t 3 D.any) x32) (fun (x34 : D) => (Option.map (fun (x35 : (List D)) => (@List.cons D x34 x35)) (Option.bind (loadO Bool.false 1 (List.getD ((x21).fst).t 4 D.any) x32) (fun (x35 : D) => (Option.some [x35]))))))))))) ((x21).fst).df (Option.some x31) (x30).snd) fun (x32 : (Res × St)) =>
 (leaveD RetK.trunc A (x32).fst (x32).snd)))))))) (fun (x27 : D) => (bn (leavesD dcall (fun (x28 : St) => (Option.map packD (Option.bind (loadO Bool.true 4 (List.getD ((x21).fst).t 2 D.any) x28) (fun (x29 : D) => (Option.map (fun (x30 : (List D)) => (@List.cons D x29 x30)) (Option.bind (loadO Bool.false 1 (List.getD ((x21).fst).t 3 D.any) x28) (fun (x30 : D) => (Option.map (fun (x31 : (List D)) => (@List.cons D x30 x31)) (Option.bind (loadO Bool.false 1 (List.getD ((x21).fst).t 4 D.any) x28) (fun (x31 : D) => (Option.some [x31]))))))))))) ((x21).fst).df (Option.some x27) (x26).snd) fun (x28 : (Res × St)) =>
 (leaveD RetK.trunc A (x28).fst (x28).snd)))))))))) (fun (x21 : (Res × St)) => (Option.some x21)) x20))))))))))))))) (fun (x7 : (Res × St)) => (Option.some x7)) x6))))))))
theorem r15 (a0 : D) (A : St) : Run Try.prog codecH 15 [a0] A = f15 (Run Try.prog codecH) (Dcall Try.prog codecH) a0 A := by
  rw [Run_eqK (J := k15)]
  kernel_rfl
noncomputable def f34_s0 (call : (FuncId → ((List D) → (St → ORes)))) (dcall : (D → ((List D) → ((Option D) → (St → (Option ((Option D) × St))))))) (A : St) (e : Env) (Av4 : St) : (Option ((Env × St) ⊕ (Res × St))) :=
  (bn (binO BinOp.lss 3 Bool.false (List.getD (e).t 9 D.any) (List.getD (e).t 8 D.any)) fun (x0 : D) =>
 (bn (D.bool? x0) fun (x1 : Bool) =>
 (ifb x1 (bn (nilCheckD (List.getD (e).t 0 D.any)) fun (x2 : D) =>
 (bn (fieldAddrO 0 x2) fun (x3 : D) =>
 (bn (fieldAddrO 1 x3) fun (x4 : D) =>
 (bn (Option.map (fun (x5 : D) => (x5, Av4)) (loadO Bool.false 1 x4 Av4)) fun (x5 : (D × St)) =>
 (bn (nilCheckD (List.getD (e).t 0 D.any)) fun (x6 : D) =>
 (bn (fieldAddrO 0 x6) fun (x7 : D) =>
 (bn (call 31 [x7, (D.int IntKind.i64 (10 : Int))] (x5).snd) fun (x8 : (Res × St)) =>
 (Res.elim (x8).fst (fun (x9 : D) => (bn (Option.map D.agg (Option.bind (layCells Bool.false 1 0 [(D.sl Own.full 0 []), (D.int IntKind.i64 (0 : Int))] x9) (fun (x10 : (List D)) => (Option.bind (layCells Bool.false 1 1 x10 (x5).fst) (fun (x11 : (List D)) => (Option.some x11)))))) fun (x10 : D) =>
 (bn (Option.map D.agg (Option.bind (layCells Bool.true 2 0 [(D.sl Own.full 0 []), (D.int IntKind.i64 (0 : Int))] x10) (fun (x11 : (List D)) => (Option.some x11)))) fun (x11 : D) =>
 (bn (allocO [(D.sl Own.full 0 []), (D.int IntKind.i64 (0 : Int))] (x8).snd) fun (x12 : (D × St)) =>
 (bn (Option.map (fun (x13 : St) => ((D.tup []), x13)) (storeO Bool.true 2 (x12).fst x11 (x12).snd)) fun (x13 : (D × St)) =>
 (bn (call 28 [(x12).fst, (D.int IntKind.i64 (2 : Int))] (x13).snd) fun (x14 : (Res × St)) =>
 (Res.elim (x14).fst (fun (x15 : D) => (bn (convO (ConvK.int IntKind.i64) x15) fun (x16 : D) =>
 (bn (call 28 [(x12).fst, (D.int IntKind.i64 (8 : Int))] (x14).snd) fun (x17 : (Res × St)) =>
 (Res.elim (x17).fst (fun (x18 : D) => (bn (Option.map D.agg (Option.bind (layCells Bool.false 1 0 [(D.int IntKind.i64 (0 : Int)), (D.int IntKind.u64 (0 : Int))] x16) (fun (x19 : (List D)) => (Option.bind (layCells Bool.false 1 1 x19 x18) (fun (x20 : (List D)) => (Option.some x20)))))) fun (x19 : D) =>
 (bn (allocO [(D.int IntKind.i64 (0 : Int)), (D.int IntKind.u64 (0 : Int))] (x17).snd) fun (x20 : (D × St)) =>
 (bn (Option.map (fun (x21 : St) => ((D.tup []), x21)) (storeO Bool.true 2 (x20).fst x19 (x20).snd)) fun (x21 : (D × St)) =>
 (bn (fieldAddrO 0 (x20).fst) fun (x22 : D) =>
 (bn (Option.map (fun (x23 : (D × St)) => (x23).fst) (Option.map (fun (x23 : D) => (x23, (x21).snd)) (loadO Bool.false 1 x22 (x21).snd))) fun (x23 : D) =>
 (bn (binO BinOp.geq 3 Bool.true x23 (D.int IntKind.i64 (256 : Int))) fun (x24 : D) =>
 (bn (guardB Bool.false x24) fun (x25 : Bool) =>
 (bn (ifb x25 (Option.some (List.getD (e).t 3 D.any))
 (Option.some (D.tup []))) fun (x26 : D) =>
 (bn (guardB Bool.false x24) fun (x27 : Bool) =>
 (bn (ifb x27 (lenSlO x26)
 (Option.some (D.tup []))) fun (x28 : D) =>
 (bn (guardB Bool.false x24) fun (x29 : Bool) =>
 (bn (ifb x29 (binO BinOp.gtr 3 Bool.true x28 (D.int IntKind.i64 (0 : Int)))
 (Option.some (D.tup []))) fun (x30 : D) =>
 (bn (guardB Bool.false x24) fun (x31 : Bool) =>
 (bn (ifb x31 (Option.some x30)
 (Option.some (D.tup []))) fun (x32 : D) =>
 (bn (guardB Bool.true x32) fun (x33 : Bool) =>
 (bn (ifb x33 (Option.some (List.getD (e).t 3 D.any))
 (Option.some (D.tup []))) fun (x34 : D) =>
 (bn (guardB Bool.true x32) fun (x35 : Bool) =>
 (bn (ifb x35 (Option.some (List.getD (e).t 3 D.any))
 (Option.some (D.tup []))) fun (x36 : D) =>
 (bn (guardB Bool.true x32) fun (x37 : Bool) =>
 (bn (ifb x37 (lenSlO x36)
 (Option.some (D.tup []))) fun (x38 : D) =>
 (bn (guardB Bool.true x32) fun (x39 : Bool) =>
 (bn (ifb x39 (binO BinOp.sub 3 Bool.true x38 (D.int IntKind.i64 (1 : Int)))
 (Option.some (D.tup []))) fun (x40 : D) =>
 (bn (guardB Bool.true x32) fun (x41 : Bool) =>
 (bn (ifb x41 (indexAddrO 2 Bool.true x34 x40)
 (Option.some (D.tup []))) fun (x42 : D) =>
 (bn (guardB Bool.true x32) fun (x43 : Bool) =>
 (bn (ifb x43 (fieldAddrO 0 x42)
 (Option.some (D.tup []))) fun (x44 : D) =>
 (bn (guardB Bool.true x32) fun (x45 : Bool) =>
 (bn (ifb x45 (Option.map (fun (x46 : (D × St)) => (x46).fst) (Option.map (fun (x46 : D) => (x46, (x21).snd)) (loadO Bool.false 1 x44 (x21).snd)))
 (Option.some (D.tup []))) fun (x46 : D) =>
 (bn (guardB Bool.true x32) fun (x47 : Bool) =>
 (bn (ifb x47 (fieldAddrO 0 (x20).fst)
 (Option.some (D.tup []))) fun (x48 : D) =>
 (bn (guardB Bool.true x32) fun (x49 : Bool) =>
 (bn (ifb x49 (Option.map (fun (x50 : (D × St)) => (x50).fst) (Option.map (fun (x50 : D) => (x50, (x21).snd)) (loadO Bool.false 1 x48 (x21).snd)))
 (Option.some (D.tup []))) fun (x50 : D) =>
 (bn (guardB Bool.true x32) fun (x51 : Bool) =>
 (bn (ifb x51 (binO BinOp.geq 3 Bool.false x46 x50)
 (Option.some (D.tup []))) fun (x52 : D) =>
 (bn (guardB Bool.false x24) fun (x53 : Bool) =>
 (bn (ifb x53 (Option.map (fun (x54 : Bool) => (ifb x54 x52
 (D.bool Bool.false))) (D.bool? x32))
 (Option.some (D.tup []))) fun (x54 : D) =>
 (bn (Option.map (fun (x55 : Bool) => (ifb x55 (D.bool Bool.true)
 x54)) (D.bool? x24)) fun (x55 : D) =>
 (guardP True (bn (D.bool? x55) fun (x56 : Bool) =>
 (bn (ifb x56 (bn (call 27 [(x5).fst] (x21).snd) fun (x57 : (Res × St)) =>
 (Res.elim (x57).fst (fun (x58 : D) => (Option.some (Sum.inl ((Env.mk [(List.getD (e).t 0 D.any), (List.getD (e).t 1 D.any), (List.getD (e).t 2 D.any), (List.getD (e).t 3 D.any), (x5).fst, (x12).fst, (x20).fst, (List.getD (e).t 7 D.any), (List.getD (e).t 8 D.any), (List.getD (e).t 9 D.any), (D.bool Bool.true), (List.getD (e).t 0 D.any), x2, x3, x4, (x5).fst, (List.getD (e).t 0 D.any), x6, x7, x9, (x5).fst, x10, x11, x15, x16, x18, x19, x22, x23, x24, x24, x26, x28, x30, x32, x34, x36, x38, x40, x42, x44, x46, x48, x50, x52, x54, (D.bool Bool.true), (x5).fst, x58, (List.getD (e).t 49 D.any), (List.getD (e).t 50 D.any), (List.getD (e).t 51 D.any), (List.getD (e).t 52 D.any), (List.getD (e).t 53 D.any), (List.getD (e).t 54 D.any)] (e).df), (x57).snd)))) (fun (x58 : D) => (Option.map (Sum.inr ) (Option.map (Sum.inr ) (bn (leavesD dcall (fun (x59 : St) => (Option.some (List.getD (e).t 2 D.any))) (e).df (Option.some x58) (x57).snd) fun (x59 : (Res × St)) =>
 (leaveD RetK.trunc A (x59).fst (x59).snd)))))))
 (Option.some (Sum.inl ((Env.mk [(List.getD (e).t 0 D.any), (List.getD (e).t 1 D.any), (List.getD (e).t 2 D.any), (List.getD (e).t 3 D.any), (x5).fst, (x12).fst, (x20).fst, (List.getD (e).t 7 D.any), (List.getD (e).t 8 D.any), (List.getD (e).t 9 D.any), (D.bool Bool.true), (List.getD (e).t 0 D.any), x2, x3, x4, (x5).fst, (List.getD (e).t 0 D.any), x6, x7, x9, (x5).fst, x10, x11, x15, x16, x18, x19, x22, x23, x24, x24, x26, x28, x30, x32, x34, x36, x38, x40, x42, x44, x46, x48, x50, x52, x54, (D.bool Bool.false), (List.getD (e).t 47 D.any), (List.getD (e).t 48 D.any), (List.getD (e).t 49 D.any), (List.getD (e).t 50 D.any), (List.getD (e).t 51 D.any), (List.getD (e).t 52 D.any), (List.getD (e).t 53 D.any), (List.getD (e).t 54 D.any)] (e).df), (x21).snd)))) fun (x57 : ((Env × St) ⊕ ((Env × St) ⊕ (Res × St)))) =>
 (Sum.elim (fun (x58 : (Env × St)) => (bn (Option.map (fun (x59 : D) => (x59, (x58).snd)) (loadO Bool.true 2 (List.getD ((x58).fst).t 6 D.any) (x58).snd)) fun (x59 : (D × St)) =>
 (bn (Option.map (fun (x60 : D) => (x60, (x59).snd)) (Option.map (D.sl Own.full 2) (sliceParts 2 Bool.true 0 [(0, (x59).fst)]))) fun (x60 : (D × St)) =>
 (bn (appendO 2 16 (List.getD ((x58).fst).t 3 D.any) (x60).fst (x60).snd) fun (x61 : (D × St)) =>
 (bn (tokO [(0, 2)] (x61).fst (x61).snd) fun (x62 : (D × St)) =>
 (bn (binO BinOp.add 3 Bool.true (List.getD ((x58).fst).t 9 D.any) (D.int IntKind.i64 (1 : Int))) fun (x63 : D) =>
 (guardP (Kept Av4 (x62).snd) (Option.some (Sum.inl ((Env.mk [(D.shut (List.length Av4) (List.getD ((x58).fst).t 0 D.any)), D.any, D.any, (D.shut (List.length Av4) (x62).fst), D.any, D.any, D.any, D.any, (D.shut (List.length Av4) (List.getD ((x58).fst).t 8 D.any)), (D.shut (List.length Av4) x63), D.any, D.any, D.any, D.any, D.any, D.any, D.any, D.any, D.any, D.any, D.any, D.any, D.any, D.any, D.any, D.any, D.any, D.any, D.any, D.any, D.any, D.any, D.any, D.any, D.any, D.any, D.any, D.any, D.any, D.any, D.any, D.any, D.any, D.any, D.any, D.any, D.any, D.any, D.any, D.any, D.any, D.any, D.any, D.any, D.any] (List.map (fun (x64 : (D × (List D))) => ((D.shut (List.length Av4) x64.1), (D.shutL (List.length Av4) x64.2))) ((x58).fst).df)), (List.take (List.length Av4) (x62).snd))))))))))) (fun (x58 : ((Env × St) ⊕ (Res × St))) => (Option.some x58)) x57)))))))))))))))))))))))))))))))))))))))))) (fun (x18 : D) => (Option.map (Sum.inr ) (bn (leavesD dcall (fun (x19 : St) => (Option.some (List.getD (e).t 2 D.any))) (e).df (Option.some x18) (x17).snd) fun (x19 : (Res × St)) =>
 (leaveD RetK.trunc A (x19).fst (x19).snd)))))))) (fun (x15 : D) => (Option.map (Sum.inr ) (bn (leavesD dcall (fun (x16 : St) => (Option.some (List.getD (e).t 2 D.any))) (e).df (Option.some x15) (x14).snd) fun (x16 : (Res × St)) =>
 (leaveD RetK.trunc A (x16).fst (x16).snd))))))))))) (fun (x9 : D) => (Option.map (Sum.inr ) (bn (leavesD dcall (fun (x10 : St) => (Option.some (List.getD (e).t 2 D.any))) (e).df (Option.some x9) (x8).snd) fun (x10 : (Res × St)) =>
 (leaveD RetK.trunc A (x10).fst (x10).snd))))))))))))
 (Option.map (Sum.inr ) (bn (leavesD dcall (fun (x2 : St) => (Option.some (List.getD (e).t 3 D.any))) (e).df none Av4) fun (x2 : (Res × St)) =>
 (leaveD RetK.trunc A (x2).fst (x2).snd))))))
noncomputable def f34 (call : (FuncId → ((List D) → (St → ORes)))) (dcall : (D → ((List D) → ((Option D) → (St → (Option ((Option D) × St))))))) (a0 : D) (A : St) : (Option (Res × St)) :=
  (bn (tokO [(0, 2)] (D.sl Own.full 0 []) A) fun (x0 : (D × St)) =>
 (bn (call 29 [a0, (D.int IntKind.i64 (2 : Int)), (D.int IntKind.u64 (256 : Int))] (x0).snd) fun (x1 : (Res × St)) =>
 (Res.elim (x1).fst (fun (x2 : D) => (iterK (f34_s0 call dcall A) (Env.mk [a0, D.any, D.any, (x0).fst, D.any, D.any, D.any, D.any, x2, (D.int IntKind.i64 (0 : Int)), D.any, D.any, D.any, D.any, D.any, D.any, D.any, D.any, D.any, D.any, D.any, D.any, D.any, D.any, D.any, D.any, D.any, D.any, D.any, D.any, D.any, D.any, D.any, D.any, D.any, D.any, D.any, D.any, D.any, D.any, D.any, D.any, D.any, D.any, D.any, D.any, D.any, D.any, D.any, D.any, D.any, D.any, D.any, D.any, D.any] []) (x1).snd)) (fun (x2 : D) => (leaveD RetK.trunc A (Res.pan x2) (x1).snd)))))
theorem r34 (a0 : D) (A : St) : Run Try.prog codecH 34 [a0] A = f34 (Run Try.prog codecH) (Dcall Try.prog codecH) a0 A := by
  rw [Run_eqK (J := k34)]
  kernel_rfl
noncomputable def f35_s0 (call : (FuncId → ((List D) → (St → ORes)))) (dcall : (D → ((List D) → ((Option D) → (St → (Option ((Option D) × St))))))) (A : St) (e : Env) (Av4 : St) : (Option ((Env × St) ⊕ (Res × St))) :=
  (bn (binO BinOp.lss 3 Bool.false (List.getD (e).t 9 D.any) (List.getD (e).t 8 D.any)) fun (x0 : D) =>
 (bn (D.bool? x0) fun (x1 : Bool) =>
 (ifb x1 (bn (nilCheckD (List.getD (e).t 0 D.any)) fun (x2 : D) =>
 (bn (fieldAddrO 0 x2) fun (x3 : D) =>
 (bn (fieldAddrO 1 x3) fun (x4 : D) =>
 (bn (Option.map (fun (x5 : D) => (x5, Av4)) (loadO Bool.false 1 x4 Av4)) fun (x5 : (D × St)) =>
 (bn (call 28 [(List.getD (e).t 0 D.any), (D.int IntKind.i64 (8 : Int))] (x5).snd) fun (x6 : (Res × St)) =>
 (Res.elim (x6).fst (fun (x7 : D) => (bn (Option.map D.agg (Option.bind (layCells Bool.false 1 0 [(D.int IntKind.u64 (0 : Int)), (D.sl Own.full 0 [])] x7) (fun (x8 : (List D)) => (Option.some x8)))) fun (x8 : D) =>
 (bn (allocO [(D.int IntKind.u64 (0 : Int)), (D.sl Own.full 0 [])] (x6).snd) fun (x9 : (D × St)) =>
 (bn (Option.map (fun (x10 : St) => ((D.tup []), x10)) (storeO Bool.true 2 (x9).fst x8 (x9).snd)) fun (x10 : (D × St)) =>
 (bn (fieldAddrO 0 (x9).fst) fun (x11 : D) =>
 (bn (Option.map (fun (x12 : D) => (x12, (x10).snd)) (loadO Bool.false 1 x11 (x10).snd)) fun (x12 : (D × St)) =>
 (bn (binO BinOp.eql 3 Bool.true (x12).fst (D.int IntKind.u64 (0 : Int))) fun (x13 : D) =>
 (bn (D.bool? x13) fun (x14 : Bool) =>
 (bn (ifb x14 (bn (call 27 [(x5).fst] (x12).snd) fun (x15 : (Res × St)) =>
 (Res.elim (x15).fst (fun (x16 : D) => (Option.some (Sum.inl ((Env.mk [(List.getD (e).t 0 D.any), (List.getD (e).t 1 D.any), (List.getD (e).t 2 D.any), (List.getD (e).t 3 D.any), (x5).fst, (x9).fst, (List.getD (e).t 6 D.any), (List.getD (e).t 7 D.any), (List.getD (e).t 8 D.any), (List.getD (e).t 9 D.any), (D.bool Bool.true), (List.getD (e).t 0 D.any), x2, x3, x4, (x5).fst, (List.getD (e).t 0 D.any), x7, x8, x11, (x12).fst, (D.bool Bool.true), (x5).fst, x16, (List.getD (e).t 24 D.any), (List.getD (e).t 25 D.any), (List.getD (e).t 26 D.any), (List.getD (e).t 27 D.any), (List.getD (e).t 28 D.any), (List.getD (e).t 29 D.any), (List.getD (e).t 30 D.any), (List.getD (e).t 31 D.any), (List.getD (e).t 32 D.any), (List.getD (e).t 33 D.any), (List.getD (e).t 34 D.any), (List.getD (e).t 35 D.any), (List.getD (e).t 36 D.any), (List.getD (e).t 37 D.any), (List.getD (e).t 38 D.any), (List.getD (e).t 39 D.any), (List.getD (e).t 40 D.any), (List.getD (e).t 41 D.any), (List.getD (e).t 42 D.any), (List.getD (e).t 43 D.any), (List.getD (e).t 44 D.any), (List.getD (e).t 45 D.any), (List.getD (e).t 46 D.any), (List.getD (e).t 47 D.any), (List.getD (e).t 48 D.any), (List.getD (e).t 49 D.any), (List.getD (e).t 50 D.any), (List.getD (e).t 51 D.any), (List.getD (e).t 52 D.any), (List.getD (e).t 53 D.any), (List.getD (e).t 54 D.any), (List.getD (e).t 55 D.any), (List.getD (e).t 56 D.any), (List.getD (e).t 57 D.any)] (e).df), (x15).snd)))) (fun (x16 : D) => (Option.map (Sum.inr ) (Option.map (Sum.inr ) (bn (leavesD dcall (fun (x17 : St) => (Option.some (List.getD (e).t 2 D.any))) (e).df (Option.some x16) (x15).snd) fun (x17 : (Res × St)) =>
 (leaveD RetK.trunc A (x17).fst (x17).snd)))))))
 (Option.some (Sum.inl ((Env.mk [(List.getD (e).t 0 D.any), (List.getD (e).t 1 D.any), (List.getD (e).t 2 D.any), (List.getD (e).t 3 D.any), (x5).fst, (x9).fst, (List.getD (e).t 6 D.any), (List.getD (e).t 7 D.any), (List.getD (e).t 8 D.any), (List.getD (e).t 9 D.any), (D.bool Bool.true), (List.getD (e).t 0 D.any), x2, x3, x4, (x5).fst, (List.getD (e).t 0 D.any), x7, x8, x11, (x12).fst, (D.bool Bool.false), (List.getD (e).t 22 D.any), (List.getD (e).t 23 D.any), (List.getD (e).t 24 D.any), (List.getD (e).t 25 D.any), (List.getD (e).t 26 D.any), (List.getD (e).t 27 D.any), (List.getD (e).t 28 D.any), (List.getD (e).t 29 D.any), (List.getD (e).t 30 D.any), (List.getD (e).t 31 D.any), (List.getD (e).t 32 D.any), (List.getD (e).t 33 D.any), (List.getD (e).t 34 D.any), (List.getD (e).t 35 D.any), (List.getD (e).t 36 D.any), (List.getD (e).t 37 D.any), (List.getD (e).t 38 D.any), (List.getD (e).t 39 D.any), (List.getD (e).t 40 D.any), (List.getD (e).t 41 D.any), (List.getD (e).t 42 D.any), (List.getD (e).t 43 D.any), (List.getD (e).t 44 D.any), (List.getD (e).t 45 D.any), (List.getD (e).t 46 D.any), (List.getD (e).t 47 D.any), (List.getD (e).t 48 D.any), (List.getD (e).t 49 D.any), (List.getD (e).t 50 D.any), (List.getD (e).t 51 D.any), (List.getD (e).t 52 D.any), (List.getD (e).t 53 D.any), (List.getD (e).t 54 D.any), (List.getD (e).t 55 D.any), (List.getD (e).t 56 D.any), (List.getD (e).t 57 D.any)] (e).df), (x12).snd)))) fun (x15 : ((Env × St) ⊕ ((Env × St) ⊕ (Res × St)))) =>
 (Sum.elim (fun (x16 : (Env × St)) => (bn (nilCheckD (List.getD ((x16).fst).t 0 D.any)) fun (x17 : D) =>
 (bn (fieldAddrO 0 x17) fun (x18 : D) =>
 (bn (fieldAddrO 1 x18) fun (x19 : D) =>
 (bn (Option.map (fun (x20 : D) => (x20, (x16).snd)) (loadO Bool.false 1 x19 (x16).snd)) fun (x20 : (D × St)) =>
 (bn (call 29 [(List.getD ((x16).fst).t 0 D.any), (D.int IntKind.i64 (4 : Int)), (D.int IntKind.u64 (1048576 : Int))] (x20).snd) fun (x21 : (Res × St)) =>
 (Res.elim (x21).fst (fun (x22 : D) => (bn (binO BinOp.eql 3 Bool.true x22 (D.int IntKind.i64 (0 : Int))) fun (x23 : D) =>
 (bn (guardB Bool.false x23) fun (x24 : Bool) =>
 (bn (ifb x24 (Option.some x22)
 (Option.some (D.tup []))) fun (x25 : D) =>
 (bn (guardB Bool.false x23) fun (x26 : Bool) =>
 (bn (ifb x26 (Option.some (List.getD ((x16).fst).t 0 D.any))
 (Option.some (D.tup []))) fun (x27 : D) =>
 (bn (guardB Bool.false x23) fun (x28 : Bool) =>
 (bn (ifb x28 (nilCheckD x27)
 (Option.some (D.tup []))) fun (x29 : D) =>
 (bn (guardB Bool.false x23) fun (x30 : Bool) =>
 (bn (ifb x30 (fieldAddrO 0 x29)
 (Option.some (D.tup []))) fun (x31 : D) =>
 (bn (guardB Bool.false x23) fun (x32 : Bool) =>
 (bn (ifb x32 (fieldAddrO 0 x31)
 (Option.some (D.tup []))) fun (x33 : D) =>
 (bn (guardB Bool.false x23) fun (x34 : Bool) =>
 (bn (ifb x34 (Option.map (fun (x35 : D) => (x35, (x21).snd)) (loadO Bool.false 1 x33 (x21).snd))
 (Option.some ((D.tup []), (x21).snd))) fun (x35 : (D × St)) =>
 (bn (guardB Bool.false x23) fun (x36 : Bool) =>
 (bn (ifb x36 (lenSlO (x35).fst)
 (Option.some (D.tup []))) fun (x37 : D) =>
 (bn (guardB Bool.false x23) fun (x38 : Bool) =>
 (bn (ifb x38 (binO BinOp.gtr 3 Bool.false x25 x37)
 (Option.some (D.tup []))) fun (x39 : D) =>
 (bn (Option.map (fun (x40 : Bool) => (ifb x40 (D.bool Bool.true)
 x39)) (D.bool? x23)) fun (x40 : D) =>
 (bn (D.bool? x40) fun (x41 : Bool) =>
 (bn (ifb x41 (bn (call 27 [(x20).fst] (x35).snd) fun (x42 : (Res × St)) =>
 (Res.elim (x42).fst (fun (x43 : D) => (Option.some (Sum.inl ((Env.mk [(List.getD ((x16).fst).t 0 D.any), (List.getD ((x16).fst).t 1 D.any), (List.getD ((x16).fst).t 2 D.any), (List.getD ((x16).fst).t 3 D.any), (x20).fst, (List.getD ((x16).fst).t 5 D.any), x22, (List.getD ((x16).fst).t 7 D.any), (List.getD ((x16).fst).t 8 D.any), (List.getD ((x16).fst).t 9 D.any), (List.getD ((x16).fst).t 10 D.any), (List.getD ((x16).fst).t 11 D.any), (List.getD ((x16).fst).t 12 D.any), (List.getD ((x16).fst).t 13 D.any), (List.getD ((x16).fst).t 14 D.any), (List.getD ((x16).fst).t 15 D.any), (List.getD ((x16).fst).t 16 D.any), (List.getD ((x16).fst).t 17 D.any), (List.getD ((x16).fst).t 18 D.any), (List.getD ((x16).fst).t 19 D.any), (List.getD ((x16).fst).t 20 D.any), (List.getD ((x16).fst).t 21 D.any), (List.getD ((x16).fst).t 22 D.any), (List.getD ((x16).fst).t 23 D.any), (List.getD ((x16).fst).t 0 D.any), x17, x18, x19, (x20).fst, (List.getD ((x16).fst).t 0 D.any), x22, x22, x23, x23, x25, x27, x29, x31, x33, (x35).fst, x37, x39, (D.bool Bool.true), (x20).fst, x43, (List.getD ((x16).fst).t 45 D.any), (List.getD ((x16).fst).t 46 D.any), (List.getD ((x16).fst).t 47 D.any), (List.getD ((x16).fst).t 48 D.any), (List.getD ((x16).fst).t 49 D.any), (List.getD ((x16).fst).t 50 D.any), (List.getD ((x16).fst).t 51 D.any), (List.getD ((x16).fst).t 52 D.any), (List.getD ((x16).fst).t 53 D.any), (List.getD ((x16).fst).t 54 D.any), (List.getD ((x16).fst).t 55 D.any), (List.getD ((x16).fst).t 56 D.any), (List.getD ((x16).fst).t 57 D.any)] ((x16).fst).df), (x42).snd)))) (fun (x43 : D) => (Option.map (Sum.inr ) (Option.map (Sum.inr ) (bn (leavesD dcall (fun (x44 : St) => (Option.some (List.getD ((x16).fst).t 2 D.any))) ((x16).fst).df (Option.some x43) (x42).snd) fun (x44 : (Res × St)) =>
 (leaveD RetK.trunc A (x44).fst (x44).snd)))))))
 (Option.some (Sum.inl ((Env.mk [(List.getD ((x16).fst).t 0 D.any), (List.getD ((x16).fst).t 1 D.any), (List.getD ((x16).fst).t 2 D.any), (List.getD ((x16).fst).t 3 D.any), (x20).fst, (List.getD ((x16).fst).t 5 D.any), x22, (List.getD ((x16).fst).t 7 D.any), (List.getD ((x16).fst).t 8 D.any), (List.getD ((x16).fst).t 9 D.any), (List.getD ((x16).fst).t 10 D.any), (List.getD ((x16).fst).t 11 D.any), (List.getD ((x16).fst).t 12 D.any), (List.getD ((x16).fst).t 13 D.any), (List.getD ((x16).fst).t 14 D.any), (List.getD ((x16).fst).t 15 D.any), (List.getD ((x16).fst).t 16 D.any), (List.getD ((x16).fst).t 17 D.any), (List.getD ((x16).fst).t 18 D.any), (List.getD ((x16).fst).t 19 D.any), (List.getD ((x16).fst).t 20 D.any), (List.getD ((x16).fst).t 21 D.any), (List.getD ((x16).fst).t 22 D.any), (List.getD ((x16).fst).t 23 D.any), (List.getD ((x16).fst).t 0 D.any), x17, x18, x19, (x20).fst, (List.getD ((x16).fst).t 0 D.any), x22, x22, x23, x23, x25, x27, x29, x31, x33, (x35).fst, x37, x39, (D.bool Bool.false), (List.getD ((x16).fst).t 43 D.any), (List.getD ((x16).fst).t 44 D.any), (List.getD ((x16).fst).t 45 D.any), (List.getD ((x16).fst).t 46 D.any), (List.getD ((x16).fst).t 47 D.any), (List.getD ((x16).fst).t 48 D.any), (List.getD ((x16).fst).t 49 D.any), (List.getD ((x16).fst).t 50 D.any), (List.getD ((x16).fst).t 51 D.any), (List.getD ((x16).fst).t 52 D.any), (List.getD ((x16).fst).t 53 D.any), (List.getD ((x16).fst).t 54 D.any), (List.getD ((x16).fst).t 55 D.any), (List.getD ((x16).fst).t 56 D.any), (List.getD ((x16).fst).t 57 D.any)] ((x16).fst).df), (x35).snd)))) fun (x42 : ((Env × St) ⊕ ((Env × St) ⊕ (Res × St)))) =>
 (Sum.elim (fun (x43 : (Env × St)) => (bn (nilCheckD (List.getD ((x43).fst).t 0 D.any)) fun (x44 : D) =>
 (bn (fieldAddrO 0 x44) fun (x45 : D) =>
 (bn (call 31 [x45, (List.getD ((x43).fst).t 6 D.any)] (x43).snd) fun (x46 : (Res × St)) =>
 (Res.elim (x46).fst (fun (x47 : D) => (bn (call 30 [x47] (x46).snd) fun (x48 : (Res × St)) =>
 (Res.elim (x48).fst (fun (x49 : D) => (bn (fieldAddrO 1 (List.getD ((x43).fst).t 5 D.any)) fun (x50 : D) =>
 (bn (Option.map (fun (x51 : St) => ((D.tup []), x51)) (storeO Bool.false 1 x50 x49 (x48).snd)) fun (x51 : (D × St)) =>
 (bn (Option.map (fun (x52 : D) => (x52, (x51).snd)) (loadO Bool.true 2 (List.getD ((x43).fst).t 5 D.any) (x51).snd)) fun (x52 : (D × St)) =>
 (bn (Option.map (fun (x53 : D) => (x53, (x52).snd)) (Option.map (D.sl Own.full 2) (sliceParts 2 Bool.true 0 [(0, (x52).fst)]))) fun (x53 : (D × St)) =>
 (bn (appendO 2 32 (List.getD ((x43).fst).t 3 D.any) (x53).fst (x53).snd) fun (x54 : (D × St)) =>
 (bn (tokO [(0, 2)] (x54).fst (x54).snd) fun (x55 : (D × St)) =>
 (bn (binO BinOp.add 3 Bool.true (List.getD ((x43).fst).t 9 D.any) (D.int IntKind.i64 (1 : Int))) fun (x56 : D) =>
 (guardP (Kept Av4 (x55).snd) (Option.some (Sum.inl ((Env.mk [(D.shut (List.length Av4) (List.getD ((x43).fst).t 0 D.any)), D.any, D.any, (D.shut (List.length Av4) (x55).fst), D.any, D.any, D.any, D.any, (D.shut (List.length Av4) (List.getD ((x43).fst).t 8 D.any)), (D.shut (List.length Av4) x56), D.any, D.any, D.any, D.any, D.any, D.any, D.any, D.any, D.any, D.any, D.any, D.any, D.any, D.any, D.any, D.any, D.any, D.any, D.any, D.any, D.any, D.any, D.any, D.any, D.any, D.any, D.any, D.any, D.any, D.any, D.any, D.any, D.any, D.any, D.any, D.any, D.any, D.any, D.any, D.any, D.any, D.any, D.any, D.any, D.any, D.any, D.any, D.any] (List.map (fun (x57 : (D × (List D))) => ((D.shut (List.length Av4) x57.1), (D.shutL (List.length Av4) x57.2))) ((x43).fst).df)), (List.take (List.length Av4) (x55).snd))))))))))))) (fun (x49 : D) => (Option.map (Sum.inr ) (bn (leavesD dcall (fun (x50 : St) => (Option.some (List.getD ((x43).fst).t 2 D.any))) ((x43).fst).df (Option.some x49) (x48).snd) fun (x50 : (Res × St)) =>
 (leaveD RetK.trunc A (x50).fst (x50).snd))))))) (fun (x47 : D) => (Option.map (Sum.inr ) (bn (leavesD dcall (fun (x48 : St) => (Option.some (List.getD ((x43).fst).t 2 D.any))) ((x43).fst).df (Option.some x47) (x46).snd) fun (x48 : (Res × St)) =>
 (leaveD RetK.trunc A (x48).fst (x48).snd))))))))) (fun (x43 : ((Env × St) ⊕ (Res × St))) => (Option.some x43)) x42)))))))))))))))))))))) (fun (x22 : D) => (Option.map (Sum.inr ) (bn (leavesD dcall (fun (x23 : St) => (Option.some (List.getD ((x16).fst).t 2 D.any))) ((x16).fst).df (Option.some x22) (x21).snd) fun (x23 : (Res × St)) =>
 (leaveD RetK.trunc A (x23).fst (x23).snd))))))))))) (fun (x16 : ((Env × St) ⊕ (Res × St))) => (Option.some x16)) x15)))))))))) (fun (x7 : D) => (Option.map (Sum.inr ) (bn (leavesD dcall (fun (x8 : St) => (Option.some (List.getD (e).t 2 D.any))) (e).df (Option.some x7) (x6).snd) fun (x8 : (Res × St)) =>
 (leaveD RetK.trunc A (x8).fst (x8).snd))))))))))
 (Option.map (Sum.inr ) (bn (leavesD dcall (fun (x2 : St) => (Option.some (List.getD (e).t 3 D.any))) (e).df none Av4) fun (x2 : (Res × St)) =>
 (leaveD RetK.trunc A (x2).fst (x2).snd))))))
noncomputable def f35 (call : (FuncId → ((List D) → (St → ORes)))) (dcall : (D → ((List D) → ((Option D) → (St → (Option ((Option D) × St))))))) (a0 : D) (A : St) : (Option (Res × St)) :=
  (bn (tokO [(0, 2)] (D.sl Own.full 0 []) A) fun (x0 : (D × St)) =>
 (bn (call 29 [a0, (D.int IntKind.i64 (2 : Int)), (D.int IntKind.u64 (256 : Int))] (x0).snd) fun (x1 : (Res × St)) =>
 (Res.elim (x1).fst (fun (x2 : D) => (iterK (f35_s0 call dcall A) (Env.mk [a0, D.any, D.any, (x0).fst, D.any, D.any, D.any, D.any, x2, (D.int IntKind.i64 (0 : Int)), D.any, D.any, D.any, D.any, D.any, D.any, D.any, D.any, D.any, D.any, D.any, D.any, D.any, D.any, D.any, D.any, D.any, D.any, D.any, D.any, D.any, D.any, D.any, D.any, D.any, D.any, D.any, D.any, D.any, D.any, D.any, D.any, D.any, D.any, D.any, D.any, D.any, D.any, D.any, D.any, D.any, D.any, D.any, D.any, D.any, D.any, D.any, D.any] []) (x1).snd)) (fun (x2 : D) => (leaveD RetK.trunc A (Res.pan x2) (x1).snd)))))
theorem r35 (a0 : D) (A : St) : Run Try.prog codecH 35 [a0] A = f35 (Run Try.prog codecH) (Dcall Try.prog codecH) a0 A := by
  rw [Run_eqK (J := k35)]
  kernel_rfl
end Go.Vm.Codec
