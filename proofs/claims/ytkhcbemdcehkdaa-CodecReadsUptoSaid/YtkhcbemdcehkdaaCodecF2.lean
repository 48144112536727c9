/- Written by a program: what the abstract run of each function comes to, one definition a function, and its equation. -/
import Derived.Test.YtkhcbemdcehkdaaCodecH
import Derived.KernelRfl
set_option linter.all false
namespace Go.Vm.Codec
open Go.Proofs
set_option maxRecDepth 100000
set_option linter.unusedVariables false
set_option maxHeartbeats 0
noncomputable def f15 (call : (FuncId → ((List D) → (St → ORes)))) (dcall : (D → ((List D) → ((Option D) → (St → (Option ((Option D) × St))))))) (a0 : D) (A : St) : (Option (Res × St)) :=
  (bn (allocO [(D.int IntKind.i64 (0 : Int)), (D.int IntKind.i64 (0 : Int)), (D.sl Own.full 0 []), (D.sl Own.full 0 [])] A) fun (x0 : (D × St)) =>
 (bn (allocO [(D.int IntKind.i64 (0 : Int))] (x0).snd) fun (x1 : (D × St)) =>
 (bn (allocO [(D.int IntKind.i64 (0 : Int))] (x1).snd) fun (x2 : (D × St)) =>
 (bn (lenSlO a0) fun (x3 : D) =>
 (bn (binO BinOp.gtr 3 Bool.true x3 (D.int IntKind.i64 (1048576 : Int))) fun (x4 : D) =>
 (bn (D.bool? x4) fun (x5 : Bool) =>
 (bn (ifb x5 (Option.map (Sum.inr ) (bn (leavesD dcall (fun (x6 : St) => (Option.map packD (Option.bind (loadO Bool.true 4 (x0).fst x6) (fun (x7 : D) => (Option.map (fun (x8 : (List D)) => (@List.cons D x7 x8)) (Option.bind (loadO Bool.false 1 (x1).fst x6) (fun (x8 : D) => (Option.map (fun (x9 : (List D)) => (@List.cons D x8 x9)) (Option.bind (loadO Bool.false 1 (x2).fst x6) (fun (x9 : D) => (Option.some [x9]))))))))))) [((D.fn (Fn.func 26) [] []), [(x1).fst, (x2).fst]), ((D.fn (Fn.func 33) [] [(x2).fst, (x0).fst]), [])] (Option.some (D.iface 69 (D.agg [(D.int IntKind.i64 (0 : Int)), (D.int IntKind.i64 (2 : Int))]))) (x2).snd) fun (x6 : (Res × St)) =>
 (leaveD RetK.trunc A (x6).fst (x6).snd)))
 (Option.some (Sum.inl ((Env.mk [a0, (D.tup []), (x0).fst, (x1).fst, (x2).fst, (D.tup []), (D.fn (Fn.func 33) [] [(x2).fst, (x0).fst]), a0, x3, (D.bool Bool.false), (D.tup []), (D.tup []), (D.tup []), (D.tup []), (D.tup []), (D.tup []), (D.tup []), (D.tup []), (D.tup []), (D.tup []), (D.tup []), (D.tup []), (D.tup []), (D.tup []), (D.tup []), (D.tup []), (D.tup []), (D.tup []), (D.tup []), (D.tup []), (D.tup []), (D.tup []), (D.tup []), (D.tup []), (D.tup []), (D.tup []), (D.tup []), (D.tup []), (D.tup []), (D.tup []), (D.tup []), (D.tup []), (D.tup []), (D.tup []), (D.tup []), (D.tup []), (D.tup []), (D.tup []), (D.tup []), (D.tup []), (D.tup []), (D.tup []), (D.tup [])] [((D.fn (Fn.func 26) [] []), [(x1).fst, (x2).fst]), ((D.fn (Fn.func 33) [] [(x2).fst, (x0).fst]), [])]), (x2).snd)))) fun (x6 : ((Env × St) ⊕ (Res × St))) =>
 (Sum.elim (fun (x7 : (Env × St)) => (bn (lenSlO (List.getD ((x7).fst).t 0 D.any)) fun (x8 : D) =>
 (bn (binO BinOp.eql 3 Bool.true x8 (D.int IntKind.i64 (0 : Int))) fun (x9 : D) =>
 (bn (guardB Bool.false x9) fun (x10 : Bool) =>
 (bn (ifb x10 (Option.some (List.getD ((x7).fst).t 0 D.any))
 (Option.some (D.tup []))) fun (x11 : D) =>
 (bn (guardB Bool.false x9) fun (x12 : Bool) =>
 (bn (ifb x12 (indexAddrO 1 Bool.false x11 (D.int IntKind.i64 (0 : Int)))
 (Option.some (D.tup []))) fun (x13 : D) =>
 (bn (guardB Bool.false x9) fun (x14 : Bool) =>
 (bn (ifb x14 (Option.map (fun (x15 : D) => (x15, (x7).snd)) (loadO Bool.false 1 x13 (x7).snd))
 (Option.some ((D.tup []), (x7).snd))) fun (x15 : (D × St)) =>
 (bn (guardB Bool.false x9) fun (x16 : Bool) =>
 (bn (ifb x16 (binO BinOp.neq 3 Bool.true (x15).fst (D.int IntKind.u8 (82 : Int)))
 (Option.some (D.tup []))) fun (x17 : D) =>
 (bn (Option.map (fun (x18 : Bool) => (ifb x18 (D.bool Bool.true)
 x17)) (D.bool? x9)) fun (x18 : D) =>
 (bn (D.bool? x18) fun (x19 : Bool) =>
 (bn (ifb x19 (bn (call 27 [(D.int IntKind.i64 (0 : Int))] (x15).snd) fun (x20 : (Res × St)) =>
 (Res.elim (x20).fst (fun (x21 : D) => (Option.some (Sum.inl ((Env.mk [(List.getD ((x7).fst).t 0 D.any), (List.getD ((x7).fst).t 1 D.any), (List.getD ((x7).fst).t 2 D.any), (List.getD ((x7).fst).t 3 D.any), (List.getD ((x7).fst).t 4 D.any), (List.getD ((x7).fst).t 5 D.any), (List.getD ((x7).fst).t 6 D.any), (List.getD ((x7).fst).t 7 D.any), (List.getD ((x7).fst).t 8 D.any), (List.getD ((x7).fst).t 9 D.any), (List.getD ((x7).fst).t 10 D.any), (List.getD ((x7).fst).t 11 D.any), (List.getD ((x7).fst).t 0 D.any), x8, x9, x9, x11, x13, (x15).fst, x17, (D.bool Bool.true), x21, (List.getD ((x7).fst).t 22 D.any), (List.getD ((x7).fst).t 23 D.any), (List.getD ((x7).fst).t 24 D.any), (List.getD ((x7).fst).t 25 D.any), (List.getD ((x7).fst).t 26 D.any), (List.getD ((x7).fst).t 27 D.any), (List.getD ((x7).fst).t 28 D.any), (List.getD ((x7).fst).t 29 D.any), (List.getD ((x7).fst).t 30 D.any), (List.getD ((x7).fst).t 31 D.any), (List.getD ((x7).fst).t 32 D.any), (List.getD ((x7).fst).t 33 D.any), (List.getD ((x7).fst).t 34 D.any), (List.getD ((x7).fst).t 35 D.any), (List.getD ((x7).fst).t 36 D.any), (List.getD ((x7).fst).t 37 D.any), (List.getD ((x7).fst).t 38 D.any), (List.getD ((x7).fst).t 39 D.any), (List.getD ((x7).fst).t 40 D.any), (List.getD ((x7).fst).t 41 D.any), (List.getD ((x7).fst).t 42 D.any), (List.getD ((x7).fst).t 43 D.any), (List.getD ((x7).fst).t 44 D.any), (List.getD ((x7).fst).t 45 D.any), (List.getD ((x7).fst).t 46 D.any), (List.getD ((x7).fst).t 47 D.any), (List.getD ((x7).fst).t 48 D.any), (List.getD ((x7).fst).t 49 D.any), (List.getD ((x7).fst).t 50 D.any), (List.getD ((x7).fst).t 51 D.any), (List.getD ((x7).fst).t 52 D.any)] ((x7).fst).df), (x20).snd)))) (fun (x21 : D) => (Option.map (Sum.inr ) (bn (leavesD dcall (fun (x22 : St) => (Option.map packD (Option.bind (loadO Bool.true 4 (List.getD ((x7).fst).t 2 D.any) x22) (fun (x23 : D) => (Option.map (fun (x24 : (List D)) => (@List.cons D x23 x24)) (Option.bind (loadO Bool.false 1 (List.getD ((x7).fst).t 3 D.any) x22) (fun (x24 : D) => (Option.map (fun (x25 : (List D)) => (@List.cons D x24 x25)) (Option.bind (loadO Bool.false 1 (List.getD ((x7).fst).t 4 D.any) x22) (fun (x25 : D) => (Option.some [x25]))))))))))) ((x7).fst).df (Option.some x21) (x20).snd) fun (x22 : (Res × St)) =>
 (leaveD RetK.trunc A (x22).fst (x22).snd))))))
 (Option.some (Sum.inl ((Env.mk [(List.getD ((x7).fst).t 0 D.any), (List.getD ((x7).fst).t 1 D.any), (List.getD ((x7).fst).t 2 D.any), (List.getD ((x7).fst).t 3 D.any), (List.getD ((x7).fst).t 4 D.any), (List.getD ((x7).fst).t 5 D.any), (List.getD ((x7).fst).t 6 D.any), (List.getD ((x7).fst).t 7 D.any), (List.getD ((x7).fst).t 8 D.any), (List.getD ((x7).fst).t 9 D.any), (List.getD ((x7).fst).t 10 D.any), (List.getD ((x7).fst).t 11 D.any), (List.getD ((x7).fst).t 0 D.any), x8, x9, x9, x11, x13, (x15).fst, x17, (D.bool Bool.false), (List.getD ((x7).fst).t 21 D.any), (List.getD ((x7).fst).t 22 D.any), (List.getD ((x7).fst).t 23 D.any), (List.getD ((x7).fst).t 24 D.any), (List.getD ((x7).fst).t 25 D.any), (List.getD ((x7).fst).t 26 D.any), (List.getD ((x7).fst).t 27 D.any), (List.getD ((x7).fst).t 28 D.any), (List.getD ((x7).fst).t 29 D.any), (List.getD ((x7).fst).t 30 D.any), (List.getD ((x7).fst).t 31 D.any), (List.getD ((x7).fst).t 32 D.any), (List.getD ((x7).fst).t 33 D.any), (List.getD ((x7).fst).t 34 D.any), (List.getD ((x7).fst).t 35 D.any), (List.getD ((x7).fst).t 36 D.any), (List.getD ((x7).fst).t 37 D.any), (List.getD ((x7).fst).t 38 D.any), (List.getD ((x7).fst).t 39 D.any), (List.getD ((x7).fst).t 40 D.any), (List.getD ((x7).fst).t 41 D.any), (List.getD ((x7).fst).t 42 D.any), (List.getD ((x7).fst).t 43 D.any), (List.getD ((x7).fst).t 44 D.any), (List.getD ((x7).fst).t 45 D.any), (List.getD ((x7).fst).t 46 D.any), (List.getD ((x7).fst).t 47 D.any), (List.getD ((x7).fst).t 48 D.any), (List.getD ((x7).fst).t 49 D.any), (List.getD ((x7).fst).t 50 D.any), (List.getD ((x7).fst).t 51 D.any), (List.getD ((x7).fst).t 52 D.any)] ((x7).fst).df), (x15).snd)))) fun (x20 : ((Env × St) ⊕ (Res × St))) =>
 (Sum.elim (fun (x21 : (Env × St)) => (bn (sliceSlO 1 (List.getD ((x21).fst).t 0 D.any) (Option.some (D.int IntKind.i64 (1 : Int))) none none) fun (x22 : D) =>
 (bn (Option.map D.agg (Option.bind (layCells Bool.false 1 0 [(D.sl Own.full 0 []), (D.int IntKind.i64 (0 : Int))] x22) (fun (x23 : (List D)) => (Option.bind (layCells Bool.false 1 1 x23 (D.int IntKind.i64 (1 : Int))) (fun (x24 : (List D)) => (Option.some x24)))))) fun (x23 : D) =>
 (bn (Option.map D.agg (Option.bind (layCells Bool.true 2 0 [(D.sl Own.full 0 []), (D.int IntKind.i64 (0 : Int))] x23) (fun (x24 : (List D)) => (Option.some x24)))) fun (x24 : D) =>
 (bn (boxO Bool.true x24 (x21).snd) fun (x25 : (D × St)) =>
 (bn (call 29 [(x25).fst, (D.int IntKind.i64 (2 : Int)), (D.int IntKind.u64 (63 : Int))] (x25).snd) fun (x26 : (Res × St)) =>
 (Res.elim (x26).fst (fun (x27 : D) => (bn (fieldAddrO 0 (List.getD ((x21).fst).t 2 D.any)) fun (x28 : D) =>
 (bn (Option.map (fun (x29 : St) => ((D.tup []), x29)) (storeO Bool.false 1 x28 x27 (x26).snd)) fun (x29 : (D × St)) =>
 (bn (call 29 [(x25).fst, (D.int IntKind.i64 (4 : Int)), (D.int IntKind.u64 (16383 : Int))] (x29).snd) fun (x30 : (Res × St)) =>
 (Res.elim (x30).fst (fun (x31 : D) => (bn (fieldAddrO 1 (List.getD ((x21).fst).t 2 D.any)) fun (x32 : D) =>
 (bn (Option.map (fun (x33 : St) => ((D.tup []), x33)) (storeO Bool.false 1 x32 x31 (x30).snd)) fun (x33 : (D × St)) =>
 (bn (call 34 [(x25).fst] (x33).snd) fun (x34 : (Res × St)) =>
 (Res.elim (x34).fst (fun (x35 : D) => (bn (fieldAddrO 2 (List.getD ((x21).fst).t 2 D.any)) fun (x36 : D) =>
 (bn (Option.map (fun (x37 : St) => ((D.tup []), x37)) (storeO Bool.false 1 x36 x35 (x34).snd)) fun (x37 : (D × St)) =>
 (bn (call 35 [(x25).fst] (x37).snd) fun (x38 : (Res × St)) =>
 (Res.elim (x38).fst (fun (x39 : D) => (bn (fieldAddrO 3 (List.getD ((x21).fst).t 2 D.any)) fun (x40 : D) =>
 (bn (Option.map (fun (x41 : St) => ((D.tup []), x41)) (storeO Bool.false 1 x40 x39 (x38).snd)) fun (x41 : (D × St)) =>
 (bn (nilCheckD (x25).fst) fun (x42 : D) =>
 (bn (fieldAddrO 0 x42) fun (x43 : D) =>
 (bn (fieldAddrO 0 x43) fun (x44 : D) =>
 (bn (Option.map (fun (x45 : D) => (x45, (x41).snd)) (loadO Bool.false 1 x44 (x41).snd)) fun (x45 : (D × St)) =>
 (bn (lenSlO (x45).fst) fun (x46 : D) =>
 (bn (binO BinOp.gtr 3 Bool.true x46 (D.int IntKind.i64 (0 : Int))) fun (x47 : D) =>
 (bn (D.bool? x47) fun (x48 : Bool) =>
 (bn (ifb x48 (bn (nilCheckD (x25).fst) fun (x49 : D) =>
 (bn (fieldAddrO 0 x49) fun (x50 : D) =>
 (bn (fieldAddrO 1 x50) fun (x51 : D) =>
 (bn (Option.map (fun (x52 : D) => (x52, (x45).snd)) (loadO Bool.false 1 x51 (x45).snd)) fun (x52 : (D × St)) =>
 (bn (call 27 [(x52).fst] (x52).snd) fun (x53 : (Res × St)) =>
 (Res.elim (x53).fst (fun (x54 : D) => (Option.some (Sum.inl ((Env.mk [(List.getD ((x21).fst).t 0 D.any), (List.getD ((x21).fst).t 1 D.any), (List.getD ((x21).fst).t 2 D.any), (List.getD ((x21).fst).t 3 D.any), (List.getD ((x21).fst).t 4 D.any), (x25).fst, (List.getD ((x21).fst).t 6 D.any), (List.getD ((x21).fst).t 7 D.any), (List.getD ((x21).fst).t 8 D.any), (List.getD ((x21).fst).t 9 D.any), (List.getD ((x21).fst).t 10 D.any), (List.getD ((x21).fst).t 11 D.any), (List.getD ((x21).fst).t 12 D.any), (List.getD ((x21).fst).t 13 D.any), (List.getD ((x21).fst).t 14 D.any), (List.getD ((x21).fst).t 15 D.any), (List.getD ((x21).fst).t 16 D.any), (List.getD ((x21).fst).t 17 D.any), (List.getD ((x21).fst).t 18 D.any), (List.getD ((x21).fst).t 19 D.any), (List.getD ((x21).fst).t 20 D.any), (List.getD ((x21).fst).t 21 D.any), (List.getD ((x21).fst).t 0 D.any), x22, x23, x24, (x25).fst, (x25).fst, x27, x28, (x25).fst, x31, x32, (x25).fst, x35, x36, (x25).fst, x39, x40, (x25).fst, x42, x43, x44, (x45).fst, x46, (D.bool Bool.true), (x25).fst, x49, x50, x51, (x52).fst, x54, (List.getD ((x21).fst).t 52 D.any)] ((x21).fst).df), (x53).snd)))) (fun (x54 : D) => (Option.map (Sum.inr ) (bn (leavesD dcall (fun (x55 : St) => (Option.map packD (Option.bind (loadO Bool.true 4 (List.getD ((x21).fst).t 2 D.any) x55) (fun (x56 : D) => (Option.map (fun (x57 : (List D)) => (@List.cons D x56 x57)) (Option.bind (loadO Bool.false 1 (List.getD ((x21).fst).t 3 D.any) x55) (fun (x57 : D) => (Option.map (fun (x58 : (List D)) => (@List.cons D x57 x58)) (Option.bind (loadO Bool.false 1 (List.getD ((x21).fst).t 4 D.any) x55) (fun (x58 : D) => (Option.some [x58]))))))))))) ((x21).fst).df (Option.some x54) (x53).snd) fun (x55 : (Res × St)) =>
 (leaveD RetK.trunc A (x55).fst (x55).snd))))))))))
 (Option.some (Sum.inl ((Env.mk [(List.getD ((x21).fst).t 0 D.any), (List.getD ((x21).fst).t 1 D.any), (List.getD ((x21).fst).t 2 D.any), (List.getD ((x21).fst).t 3 D.any), (List.getD ((x21).fst).t 4 D.any), (x25).fst, (List.getD ((x21).fst).t 6 D.any), (List.getD ((x21).fst).t 7 D.any), (List.getD ((x21).fst).t 8 D.any), (List.getD ((x21).fst).t 9 D.any), (List.getD ((x21).fst).t 10 D.any), (List.getD ((x21).fst).t 11 D.any), (List.getD ((x21).fst).t 12 D.any), (List.getD ((x21).fst).t 13 D.any), (List.getD ((x21).fst).t 14 D.any), (List.getD ((x21).fst).t 15 D.any), (List.getD ((x21).fst).t 16 D.any), (List.getD ((x21).fst).t 17 D.any), (List.getD ((x21).fst).t 18 D.any), (List.getD ((x21).fst).t 19 D.any), (List.getD ((x21).fst).t 20 D.any), (List.getD ((x21).fst).t 21 D.any), (List.getD ((x21).fst).t 0 D.any), x22, x23, x24, (x25).fst, (x25).fst, x27, x28, (x25).fst, x31, x32, (x25).fst, x35, x36, (x25).fst, x39, x40, (x25).fst, x42, x43, x44, (x45).fst, x46, (D.bool Bool.false), (List.getD ((x21).fst).t 46 D.any), (List.getD ((x21).fst).t 47 D.any), (List.getD ((x21).fst).t 48 D.any), (List.getD ((x21).fst).t 49 D.any), (List.getD ((x21).fst).t 50 D.any), (List.getD ((x21).fst).t 51 D.any), (List.getD ((x21).fst).t 52 D.any)] ((x21).fst).df), (x45).snd)))) fun (x49 : ((Env × St) ⊕ (Res × St))) =>
 (Sum.elim (fun (x50 : (Env × St)) => (bn (Option.map (fun (x51 : D) => (x51, (x50).snd)) (loadO Bool.true 4 (List.getD ((x50).fst).t 2 D.any) (x50).snd)) fun (x51 : (D × St)) =>
 (bn (Option.map (fun (x52 : St) => ((D.tup []), x52)) (storeO Bool.true 4 (List.getD ((x50).fst).t 2 D.any) (x51).fst (x51).snd)) fun (x52 : (D × St)) =>
 (bn (Option.map (fun (x53 : St) => ((D.tup []), x53)) (storeO Bool.false 1 (List.getD ((x50).fst).t 3 D.any) (D.int IntKind.i64 (0 : Int)) (x52).snd)) fun (x53 : (D × St)) =>
 (bn (Option.map (fun (x54 : St) => ((D.tup []), x54)) (storeO Bool.false 1 (List.getD ((x50).fst).t 4 D.any) (D.int IntKind.i64 (0 : Int)) (x53).snd)) fun (x54 : (D × St)) =>
 (bn (leavesD dcall (fun (x55 : St) => (Option.map packD (Option.bind (loadO Bool.true 4 (List.getD ((x50).fst).t 2 D.any) x55) (fun (x56 : D) => (Option.map (fun (x57 : (List D)) => (@List.cons D x56 x57)) (Option.bind (loadO Bool.false 1 (List.getD ((x50).fst).t 3 D.any) x55) (fun (x57 : D) => (Option.map (fun (x58 : (List D)) => (@List.cons D x57 x58)) (Option.bind (loadO Bool.false 1 (List.getD ((x50).fst).t 4 D.any) x55) (fun (x58 : D) => (Option.some [x58]))))))))))) ((x50).fst).df none (x54).snd) fun (x55 : (Res × St)) =>
 (leaveD RetK.trunc A (x55).fst (x55).snd))))))) (fun (x50 : (Res × St)) => (Option.some x50)) x49)))))))))))) (fun (x39 : D) => (bn (leavesD dcall (fun (x40 : St) => (Option.map packD (Option.bind (loadO Bool.true 4 (List.getD ((x21).fst).t 2 D.any) x40) (fun (x41 : D) => (Option.map (fun (x42 : (List D)) => (@List.cons D x41 x42)) (Option.bind (loadO Bool.false 1 (List.getD ((x21).fst).t 3 D.any) x40) (fun (x42 : D) => (Option.map (fun (x43 : (List D)) => (@List.cons D x42 x43)) (Option.bind (loadO Bool.false 1 (List.getD ((x21).fst).t 4 D.any) x40) (fun (x43 : D) => (Option.some [x43]))))))))))) ((x21).fst).df (Option.some x39) (x38).snd) fun (x40 : (Res × St)) =>
 (leaveD RetK.trunc A (x40).fst (x40).snd)))))))) (fun (x35 : D) => (bn (leavesD dcall (fun (x36 : St) => (Option.map packD (Option.bind (loadO Bool.true 4 (List.getD ((x21).fst).t 2 D.any) x36) (fun (x37 : D) => (Option.map (fun (x38 : (List D)) => (@List.cons D x37 x38)) (Option.bind (loadO Bool.false 1 (List.getD ((x21).fst).t 3 D.any) x36) (fun (x38 : D) => (Option.map (fun (x39 : (List D)) => (@List.cons D x38 x39)) (Option.bind (loadO Bool.false 1 (List.getD ((x21).fst).t 4 D.any) x36) (fun (x39 : D) => (Option.some [x39]))))))))))) ((x21).fst).df (Option.some x35) (x34).snd) fun (x36 : (Res × St)) =>
 (leaveD RetK.trunc A (x36).fst (x36).snd)))))))) (fun (x31 : D) => (bn (leavesD dcall (fun (x32 : St) => (Option.map packD (Option.bind (loadO Bool.true 4 (List.getD ((x21).fst).t 2 D.any) x32) (fun (x33 : D) => (Option.map (fun (x34 : (List D)) => (@List.cons D x33 x34)) (Option.bind (loadO Bool.false 1 (List.getD ((x21).fst).t 3 D.any) x32) (fun (x34 : D) => (Option.map (fun (x35 : (List D)) => (@List.cons D x34 x35)) (Option.bind (loadO Bool.false 1 (List.getD ((x21).fst).t 4 D.any) x32) (fun (x35 : D) => (Option.some [x35]))))))))))) ((x21).fst).df (Option.some x31) (x30).snd) fun (x32 : (Res × St)) =>
 (leaveD RetK.trunc A (x32).fst (x32).snd)))))))) (fun (x27 : D) => (bn (leavesD dcall (fun (x28 : St) => (Option.map packD (Option.bind (loadO Bool.true 4 (List.getD ((x21).fst).t 2 D.any) x28) (fun (x29 : D) => (Option.map (fun (x30 : (List D)) => (@List.cons D x29 x30)) (Option.bind (loadO Bool.false 1 (List.getD ((x21).fst).t 3 D.any) x28) (fun (x30 : D) => (Option.map (fun (x31 : (List D)) => (@List.cons D x30 x31)) (Option.bind (loadO Bool.false 1 (List.getD ((x21).fst).t 4 D.any) x28) (fun (x31 : D) => (Option.some [x31]))))))))))) ((x21).fst).df (Option.some x27) (x26).snd) fun (x28 : (Res × St)) =>
 (leaveD RetK.trunc A (x28).fst (x28).snd)))))))))) (fun (x21 : (Res × St)) => (Option.some x21)) x20))))))))))))))) (fun (x7 : (Res × St)) => (Option.some x7)) x6))))))))
theorem r15 (a0 : D) (A : St) : Run Try.prog codecH 15 [a0] A = f15 (Run Try.prog codecH) (Dcall Try.prog codecH) a0 A := by
  rw [Run_eqK (J := k15)]
  kernel_rfl
noncomputable def f16_s0 (call : (FuncId → ((List D) → (St → ORes)))) (dcall : (D → ((List D) → ((Option D) → (St → (Option ((Option D) × St))))))) (A : St) (e : Env) (Av4 : St) : (Option ((Env × St) ⊕ (Res × St))) :=
  (bn (binO BinOp.lss 3 Bool.false (List.getD (e).t 11 D.any) (List.getD (e).t 7 D.any)) fun (x0 : D) =>
 (bn (guardB Bool.true x0) fun (x1 : Bool) =>
 (bn (ifb x1 (Option.some (List.getD (e).t 5 D.any))
 (Option.some (D.tup []))) fun (x2 : D) =>
 (bn (guardB Bool.true x0) fun (x3 : Bool) =>
 (bn (ifb x3 (nilCheckD x2)
 (Option.some (D.tup []))) fun (x4 : D) =>
 (bn (guardB Bool.true x0) fun (x5 : Bool) =>
 (bn (ifb x5 (fieldAddrO 2 x4)
 (Option.some (D.tup []))) fun (x6 : D) =>
 (bn (guardB Bool.true x0) fun (x7 : Bool) =>
 (bn (ifb x7 (Option.map (fun (x8 : D) => (x8, Av4)) (loadO Bool.false 1 x6 Av4))
 (Option.some ((D.tup []), Av4))) fun (x8 : (D × St)) =>
 (bn (guardB Bool.true x0) fun (x9 : Bool) =>
 (bn (ifb x9 (unD UnOp.not (x8).fst)
 (Option.some (D.tup []))) fun (x10 : D) =>
 (bn (Option.map (fun (x11 : Bool) => (ifb x11 x10
 (D.bool Bool.false))) (D.bool? x0)) fun (x11 : D) =>
 (bn (D.bool? x11) fun (x12 : Bool) =>
 (ifb x12 (bn (call 36 [(List.getD (e).t 5 D.any), (D.int IntKind.i64 (8 : Int)), (D.int IntKind.u64 (1 : Int)), (D.int IntKind.u64 (18446744073709551615 : Int))] (x8).snd) fun (x13 : (Res × St)) =>
 (Res.elim (x13).fst (fun (x14 : D) => (bn (Option.map D.agg (Option.bind (layCells Bool.false 1 0 [(D.int IntKind.u64 (0 : Int)), (D.sl Own.full 0 [])] x14) (fun (x15 : (List D)) => (Option.some x15)))) fun (x15 : D) =>
 (bn (allocO [(D.int IntKind.u64 (0 : Int)), (D.sl Own.full 0 [])] (x13).snd) fun (x16 : (D × St)) =>
 (bn (Option.map (fun (x17 : St) => ((D.tup []), x17)) (storeO Bool.true 2 (x16).fst x15 (x16).snd)) fun (x17 : (D × St)) =>
 (bn (call 36 [(List.getD (e).t 5 D.any), (D.int IntKind.i64 (4 : Int)), (D.int IntKind.u64 (1 : Int)), (D.int IntKind.u64 (18446744073709551615 : Int))] (x17).snd) fun (x18 : (Res × St)) =>
 (Res.elim (x18).fst (fun (x19 : D) => (bn (convO (ConvK.int IntKind.i64) x19) fun (x20 : D) =>
 (bn (nilCheckD (List.getD (e).t 5 D.any)) fun (x21 : D) =>
 (bn (fieldAddrO 2 x21) fun (x22 : D) =>
 (bn (Option.map (fun (x23 : D) => (x23, (x18).snd)) (loadO Bool.false 1 x22 (x18).snd)) fun (x23 : (D × St)) =>
 (bn (unD UnOp.not (x23).fst) fun (x24 : D) =>
 (bn (guardB Bool.true x24) fun (x25 : Bool) =>
 (bn (ifb x25 (Option.some x20)
 (Option.some (D.tup []))) fun (x26 : D) =>
 (bn (guardB Bool.true x24) fun (x27 : Bool) =>
 (bn (ifb x27 (Option.some (List.getD (e).t 0 D.any))
 (Option.some (D.tup []))) fun (x28 : D) =>
 (bn (guardB Bool.true x24) fun (x29 : Bool) =>
 (bn (ifb x29 (lenSlO x28)
 (Option.some (D.tup []))) fun (x30 : D) =>
 (bn (guardB Bool.true x24) fun (x31 : Bool) =>
 (bn (ifb x31 (Option.some (List.getD (e).t 5 D.any))
 (Option.some (D.tup []))) fun (x32 : D) =>
 (bn (guardB Bool.true x24) fun (x33 : Bool) =>
 (bn (ifb x33 (nilCheckD x32)
 (Option.some (D.tup []))) fun (x34 : D) =>
 (bn (guardB Bool.true x24) fun (x35 : Bool) =>
 (bn (ifb x35 (fieldAddrO 1 x34)
 (Option.some (D.tup []))) fun (x36 : D) =>
 (bn (guardB Bool.true x24) fun (x37 : Bool) =>
 (bn (ifb x37 (Option.map (fun (x38 : D) => (x38, (x23).snd)) (loadO Bool.false 1 x36 (x23).snd))
 (Option.some ((D.tup []), (x23).snd))) fun (x38 : (D × St)) =>
 (bn (guardB Bool.true x24) fun (x39 : Bool) =>
 (bn (ifb x39 (binO BinOp.sub 3 Bool.false x30 (x38).fst)
 (Option.some (D.tup []))) fun (x40 : D) =>
 (bn (guardB Bool.true x24) fun (x41 : Bool) =>
 (bn (ifb x41 (binO BinOp.gtr 3 Bool.false x26 x40)
 (Option.some (D.tup []))) fun (x42 : D) =>
 (bn (Option.map (fun (x43 : Bool) => (ifb x43 x42
 (D.bool Bool.false))) (D.bool? x24)) fun (x43 : D) =>
 (bn (D.bool? x43) fun (x44 : Bool) =>
 (bn (ifb x44 (bn (nilCheckD (List.getD (e).t 5 D.any)) fun (x45 : D) =>
 (bn (fieldAddrO 1 x45) fun (x46 : D) =>
 (bn (Option.map (fun (x47 : D) => (x47, (x38).snd)) (loadO Bool.false 1 x46 (x38).snd)) fun (x47 : (D × St)) =>
 (bn (binO BinOp.sub 3 Bool.true (x47).fst (D.int IntKind.i64 (4 : Int))) fun (x48 : D) =>
 (bn (nilCheckD (List.getD (e).t 5 D.any)) fun (x49 : D) =>
 (bn (fieldAddrO 1 x49) fun (x50 : D) =>
 (bn (Option.map (fun (x51 : St) => ((D.tup []), x51)) (storeO Bool.false 1 x50 x48 (x47).snd)) fun (x51 : (D × St)) =>
 (bn (nilCheckD (List.getD (e).t 5 D.any)) fun (x52 : D) =>
 (bn (fieldAddrO 2 x52) fun (x53 : D) =>
 (bn (Option.map (fun (x54 : St) => ((D.tup []), x54)) (storeO Bool.false 1 x53 (D.bool Bool.true) (x51).snd)) fun (x54 : (D × St)) =>
 (Option.some (Sum.inl ((Env.mk [(List.getD (e).t 0 D.any), (List.getD (e).t 1 D.any), (List.getD (e).t 2 D.any), (List.getD (e).t 3 D.any), (List.getD (e).t 4 D.any), (List.getD (e).t 5 D.any), (List.getD (e).t 6 D.any), (List.getD (e).t 7 D.any), (List.getD (e).t 8 D.any), (List.getD (e).t 9 D.any), (List.getD (e).t 10 D.any), (List.getD (e).t 11 D.any), (x16).fst, x20, (List.getD (e).t 14 D.any), (List.getD (e).t 15 D.any), (List.getD (e).t 16 D.any), (List.getD (e).t 17 D.any), (List.getD (e).t 18 D.any), (List.getD (e).t 19 D.any), (List.getD (e).t 20 D.any), (List.getD (e).t 21 D.any), (List.getD (e).t 22 D.any), (List.getD (e).t 23 D.any), (List.getD (e).t 24 D.any), (List.getD (e).t 25 D.any), (List.getD (e).t 26 D.any), (List.getD (e).t 27 D.any), (List.getD (e).t 28 D.any), (List.getD (e).t 29 D.any), (List.getD (e).t 30 D.any), (List.getD (e).t 31 D.any), (List.getD (e).t 32 D.any), (List.getD (e).t 33 D.any), (List.getD (e).t 34 D.any), (List.getD (e).t 35 D.any), (List.getD (e).t 36 D.any), (List.getD (e).t 37 D.any), (List.getD (e).t 38 D.any), (List.getD (e).t 39 D.any), (List.getD (e).t 40 D.any), (List.getD (e).t 41 D.any), (List.getD (e).t 42 D.any), (List.getD (e).t 43 D.any), (List.getD (e).t 44 D.any), (List.getD (e).t 45 D.any), (List.getD (e).t 46 D.any), (List.getD (e).t 47 D.any), (List.getD (e).t 48 D.any), (List.getD (e).t 49 D.any), (List.getD (e).t 50 D.any), (List.getD (e).t 51 D.any), (List.getD (e).t 52 D.any), (List.getD (e).t 53 D.any), (List.getD (e).t 54 D.any), (List.getD (e).t 55 D.any), (List.getD (e).t 56 D.any), (List.getD (e).t 57 D.any), (List.getD (e).t 58 D.any), (List.getD (e).t 11 D.any), (List.getD (e).t 7 D.any), x0, x0, x2, x4, x6, (x8).fst, x10, (D.bool Bool.true), (List.getD (e).t 69 D.any), (List.getD (e).t 70 D.any), (List.getD (e).t 5 D.any), x14, x15, (List.getD (e).t 5 D.any), x19, x20, (List.getD (e).t 5 D.any), x21, x22, (x23).fst, x24, x24, x26, x28, x30, x32, x34, x36, (x38).fst, x40, x42, (D.bool Bool.true), (List.getD (e).t 5 D.any), (List.getD (e).t 5 D.any), x45, x46, (x47).fst, x48, x49, x50, (List.getD (e).t 5 D.any), x52, x53, (List.getD (e).t 104 D.any), (List.getD (e).t 105 D.any), (List.getD (e).t 106 D.any), (List.getD (e).t 107 D.any), (List.getD (e).t 108 D.any), (List.getD (e).t 109 D.any), (List.getD (e).t 110 D.any), (List.getD (e).t 111 D.any), (List.getD (e).t 112 D.any), (List.getD (e).t 113 D.any), (List.getD (e).t 114 D.any), (List.getD (e).t 115 D.any), (List.getD (e).t 116 D.any), (List.getD (e).t 117 D.any), (List.getD (e).t 118 D.any), (List.getD (e).t 119 D.any), (List.getD (e).t 120 D.any), (List.getD (e).t 121 D.any), (List.getD (e).t 122 D.any), (List.getD (e).t 123 D.any), (List.getD (e).t 124 D.any), (List.getD (e).t 125 D.any), (List.getD (e).t 126 D.any), (List.getD (e).t 127 D.any), (List.getD (e).t 128 D.any), (List.getD (e).t 129 D.any), (List.getD (e).t 130 D.any), (List.getD (e).t 131 D.any), (List.getD (e).t 132 D.any), (List.getD (e).t 133 D.any), (List.getD (e).t 134 D.any), (List.getD (e).t 135 D.any), (List.getD (e).t 136 D.any), (List.getD (e).t 137 D.any), (List.getD (e).t 138 D.any), (List.getD (e).t 139 D.any), (List.getD (e).t 140 D.any), (List.getD (e).t 141 D.any), (List.getD (e).t 142 D.any), (List.getD (e).t 143 D.any), (List.getD (e).t 144 D.any), (List.getD (e).t 145 D.any), (List.getD (e).t 146 D.any), (List.getD (e).t 147 D.any), (List.getD (e).t 148 D.any), (List.getD (e).t 149 D.any), (List.getD (e).t 150 D.any), (List.getD (e).t 151 D.any), (List.getD (e).t 152 D.any), (List.getD (e).t 153 D.any), (List.getD (e).t 154 D.any), (List.getD (e).t 155 D.any), (List.getD (e).t 156 D.any), (List.getD (e).t 157 D.any)] (e).df), (x54).snd)))))))))))))
 (Option.some (Sum.inl ((Env.mk [(List.getD (e).t 0 D.any), (List.getD (e).t 1 D.any), (List.getD (e).t 2 D.any), (List.getD (e).t 3 D.any), (List.getD (e).t 4 D.any), (List.getD (e).t 5 D.any), (List.getD (e).t 6 D.any), (List.getD (e).t 7 D.any), (List.getD (e).t 8 D.any), (List.getD (e).t 9 D.any), (List.getD (e).t 10 D.any), (List.getD (e).t 11 D.any), (x16).fst, x20, (List.getD (e).t 14 D.any), (List.getD (e).t 15 D.any), (List.getD (e).t 16 D.any), (List.getD (e).t 17 D.any), (List.getD (e).t 18 D.any), (List.getD (e).t 19 D.any), (List.getD (e).t 20 D.any), (List.getD (e).t 21 D.any), (List.getD (e).t 22 D.any), (List.getD (e).t 23 D.any), (List.getD (e).t 24 D.any), (List.getD (e).t 25 D.any), (List.getD (e).t 26 D.any), (List.getD (e).t 27 D.any), (List.getD (e).t 28 D.any), (List.getD (e).t 29 D.any), (List.getD (e).t 30 D.any), (List.getD (e).t 31 D.any), (List.getD (e).t 32 D.any), (List.getD (e).t 33 D.any), (List.getD (e).t 34 D.any), (List.getD (e).t 35 D.any), (List.getD (e).t 36 D.any), (List.getD (e).t 37 D.any), (List.getD (e).t 38 D.any), (List.getD (e).t 39 D.any), (List.getD (e).t 40 D.any), (List.getD (e).t 41 D.any), (List.getD (e).t 42 D.any), (List.getD (e).t 43 D.any), (List.getD (e).t 44 D.any), (List.getD (e).t 45 D.any), (List.getD (e).t 46 D.any), (List.getD (e).t 47 D.any), (List.getD (e).t 48 D.any), (List.getD (e).t 49 D.any), (List.getD (e).t 50 D.any), (List.getD (e).t 51 D.any), (List.getD (e).t 52 D.any), (List.getD (e).t 53 D.any), (List.getD (e).t 54 D.any), (List.getD (e).t 55 D.any), (List.getD (e).t 56 D.any), (List.getD (e).t 57 D.any), (List.getD (e).t 58 D.any), (List.getD (e).t 11 D.any), (List.getD (e).t 7 D.any), x0, x0, x2, x4, x6, (x8).fst, x10, (D.bool Bool.true), (List.getD (e).t 69 D.any), (List.getD (e).t 70 D.any), (List.getD (e).t 5 D.any), x14, x15, (List.getD (e).t 5 D.any), x19, x20, (List.getD (e).t 5 D.any), x21, x22, (x23).fst, x24, x24, x26, x28, x30, x32, x34, x36, (x38).fst, x40, x42, (D.bool Bool.false), (List.getD (e).t 93 D.any), (List.getD (e).t 94 D.any), (List.getD (e).t 95 D.any), (List.getD (e).t 96 D.any), (List.getD (e).t 97 D.any), (List.getD (e).t 98 D.any), (List.getD (e).t 99 D.any), (List.getD (e).t 100 D.any), (List.getD (e).t 101 D.any), (List.getD (e).t 102 D.any), (List.getD (e).t 103 D.any), (List.getD (e).t 104 D.any), (List.getD (e).t 105 D.any), (List.getD (e).t 106 D.any), (List.getD (e).t 107 D.any), (List.getD (e).t 108 D.any), (List.getD (e).t 109 D.any), (List.getD (e).t 110 D.any), (List.getD (e).t 111 D.any), (List.getD (e).t 112 D.any), (List.getD (e).t 113 D.any), (List.getD (e).t 114 D.any), (List.getD (e).t 115 D.any), (List.getD (e).t 116 D.any), (List.getD (e).t 117 D.any), (List.getD (e).t 118 D.any), (List.getD (e).t 119 D.any), (List.getD (e).t 120 D.any), (List.getD (e).t 121 D.any), (List.getD (e).t 122 D.any), (List.getD (e).t 123 D.any), (List.getD (e).t 124 D.any), (List.getD (e).t 125 D.any), (List.getD (e).t 126 D.any), (List.getD (e).t 127 D.any), (List.getD (e).t 128 D.any), (List.getD (e).t 129 D.any), (List.getD (e).t 130 D.any), (List.getD (e).t 131 D.any), (List.getD (e).t 132 D.any), (List.getD (e).t 133 D.any), (List.getD (e).t 134 D.any), (List.getD (e).t 135 D.any), (List.getD (e).t 136 D.any), (List.getD (e).t 137 D.any), (List.getD (e).t 138 D.any), (List.getD (e).t 139 D.any), (List.getD (e).t 140 D.any), (List.getD (e).t 141 D.any), (List.getD (e).t 142 D.any), (List.getD (e).t 143 D.any), (List.getD (e).t 144 D.any), (List.getD (e).t 145 D.any), (List.getD (e).t 146 D.any), (List.getD (e).t 147 D.any), (List.getD (e).t 148 D.any), (List.getD (e).t 149 D.any), (List.getD (e).t 150 D.any), (List.getD (e).t 151 D.any), (List.getD (e).t 152 D.any), (List.getD (e).t 153 D.any), (List.getD (e).t 154 D.any), (List.getD (e).t 155 D.any), (List.getD (e).t 156 D.any), (List.getD (e).t 157 D.any)] (e).df), (x38).snd)))) fun (x45 : ((Env × St) ⊕ ((Env × St) ⊕ (Res × St)))) =>
 (Sum.elim (fun (x46 : (Env × St)) => (bn (nilCheckD (List.getD ((x46).fst).t 5 D.any)) fun (x47 : D) =>
 (bn (fieldAddrO 2 x47) fun (x48 : D) =>
 (bn (Option.map (fun (x49 : D) => (x49, (x46).snd)) (loadO Bool.false 1 x48 (x46).snd)) fun (x49 : (D × St)) =>
 (bn (unD UnOp.not (x49).fst) fun (x50 : D) =>
 (bn (D.bool? x50) fun (x51 : Bool) =>
 (bn (ifb x51 (bn (nilCheckD (List.getD ((x46).fst).t 5 D.any)) fun (x52 : D) =>
 (bn (fieldAddrO 1 x52) fun (x53 : D) =>
 (bn (Option.map (fun (x54 : (D × St)) => (x54).fst) (Option.map (fun (x54 : D) => (x54, (x49).snd)) (loadO Bool.false 1 x53 (x49).snd))) fun (x54 : D) =>
 (bn (nilCheckD (List.getD ((x46).fst).t 5 D.any)) fun (x55 : D) =>
 (bn (fieldAddrO 1 x55) fun (x56 : D) =>
 (bn (Option.map (fun (x57 : (D × St)) => (x57).fst) (Option.map (fun (x57 : D) => (x57, (x49).snd)) (loadO Bool.false 1 x56 (x49).snd))) fun (x57 : D) =>
 (bn (binO BinOp.add 3 Bool.false x57 (List.getD ((x46).fst).t 13 D.any)) fun (x58 : D) =>
 (bn (sliceSlO 1 (List.getD ((x46).fst).t 0 D.any) (Option.some x54) (Option.some x58) none) fun (x59 : D) =>
 (bn (appendO 1 1 (D.sl Own.full 1 []) x59 (x49).snd) fun (x60 : (D × St)) =>
 (bn (fieldAddrO 1 (List.getD ((x46).fst).t 12 D.any)) fun (x61 : D) =>
 (bn (Option.map (fun (x62 : St) => ((D.tup []), x62)) (storeO Bool.false 1 x61 (x60).fst (x60).snd)) fun (x62 : (D × St)) =>
 (guardP True (bn (nilCheckD (List.getD ((x46).fst).t 5 D.any)) fun (x63 : D) =>
 (bn (fieldAddrO 1 x63) fun (x64 : D) =>
 (bn (Option.map (fun (x65 : D) => (x65, (x62).snd)) (loadO Bool.false 1 x64 (x62).snd)) fun (x65 : (D × St)) =>
 (bn (binO BinOp.add 3 Bool.false (x65).fst (List.getD ((x46).fst).t 13 D.any)) fun (x66 : D) =>
 (bn (nilCheckD (List.getD ((x46).fst).t 5 D.any)) fun (x67 : D) =>
 (bn (fieldAddrO 1 x67) fun (x68 : D) =>
 (bn (Option.map (fun (x69 : St) => ((D.tup []), x69)) (storeO Bool.false 1 x68 x66 (x65).snd)) fun (x69 : (D × St)) =>
 (bn (fieldAddrO 3 (List.getD ((x46).fst).t 6 D.any)) fun (x70 : D) =>
 (bn (Option.map (fun (x71 : D) => (x71, (x69).snd)) (loadO Bool.false 1 x70 (x69).snd)) fun (x71 : (D × St)) =>
 (bn (Option.map (fun (x72 : D) => (x72, (x71).snd)) (loadO Bool.true 2 (List.getD ((x46).fst).t 12 D.any) (x71).snd)) fun (x72 : (D × St)) =>
 (bn (Option.map (fun (x73 : D) => (x73, (x72).snd)) (Option.map (D.sl Own.full 2) (sliceParts 2 Bool.true 0 [(0, (x72).fst)]))) fun (x73 : (D × St)) =>
 (bn (appendO 2 32 (x71).fst (x73).fst (x73).snd) fun (x74 : (D × St)) =>
 (bn (fieldAddrO 3 (List.getD ((x46).fst).t 6 D.any)) fun (x75 : D) =>
 (bn (Option.map (fun (x76 : St) => ((D.tup []), x76)) (storeO Bool.false 1 x75 (x74).fst (x74).snd)) fun (x76 : (D × St)) =>
 (Option.some (Sum.inl ((Env.mk [(List.getD ((x46).fst).t 0 D.any), (List.getD ((x46).fst).t 1 D.any), (List.getD ((x46).fst).t 2 D.any), (List.getD ((x46).fst).t 3 D.any), (List.getD ((x46).fst).t 4 D.any), (List.getD ((x46).fst).t 5 D.any), (List.getD ((x46).fst).t 6 D.any), (List.getD ((x46).fst).t 7 D.any), (List.getD ((x46).fst).t 8 D.any), (List.getD ((x46).fst).t 9 D.any), (List.getD ((x46).fst).t 10 D.any), (List.getD ((x46).fst).t 11 D.any), (List.getD ((x46).fst).t 12 D.any), (List.getD ((x46).fst).t 13 D.any), (List.getD ((x46).fst).t 14 D.any), (List.getD ((x46).fst).t 15 D.any), (List.getD ((x46).fst).t 16 D.any), (List.getD ((x46).fst).t 17 D.any), (List.getD ((x46).fst).t 18 D.any), (List.getD ((x46).fst).t 19 D.any), (List.getD ((x46).fst).t 20 D.any), (List.getD ((x46).fst).t 21 D.any), (List.getD ((x46).fst).t 22 D.any), (List.getD ((x46).fst).t 23 D.any), (List.getD ((x46).fst).t 24 D.any), (List.getD ((x46).fst).t 25 D.any), (List.getD ((x46).fst).t 26 D.any), (List.getD ((x46).fst).t 27 D.any), (List.getD ((x46).fst).t 28 D.any), (List.getD ((x46).fst).t 29 D.any), (List.getD ((x46).fst).t 30 D.any), (List.getD ((x46).fst).t 31 D.any), (List.getD ((x46).fst).t 32 D.any), (List.getD ((x46).fst).t 33 D.any), (List.getD ((x46).fst).t 34 D.any), (List.getD ((x46).fst).t 35 D.any), (List.getD ((x46).fst).t 36 D.any), (List.getD ((x46).fst).t 37 D.any), (List.getD ((x46).fst).t 38 D.any), (List.getD ((x46).fst).t 39 D.any), (List.getD ((x46).fst).t 40 D.any), (List.getD ((x46).fst).t 41 D.any), (List.getD ((x46).fst).t 42 D.any), (List.getD ((x46).fst).t 43 D.any), (List.getD ((x46).fst).t 44 D.any), (List.getD ((x46).fst).t 45 D.any), (List.getD ((x46).fst).t 46 D.any), (List.getD ((x46).fst).t 47 D.any), (List.getD ((x46).fst).t 48 D.any), (List.getD ((x46).fst).t 49 D.any), (List.getD ((x46).fst).t 50 D.any), (List.getD ((x46).fst).t 51 D.any), (List.getD ((x46).fst).t 52 D.any), (List.getD ((x46).fst).t 53 D.any), (List.getD ((x46).fst).t 54 D.any), (List.getD ((x46).fst).t 55 D.any), (List.getD ((x46).fst).t 56 D.any), (List.getD ((x46).fst).t 57 D.any), (List.getD ((x46).fst).t 58 D.any), (List.getD ((x46).fst).t 59 D.any), (List.getD ((x46).fst).t 60 D.any), (List.getD ((x46).fst).t 61 D.any), (List.getD ((x46).fst).t 62 D.any), (List.getD ((x46).fst).t 63 D.any), (List.getD ((x46).fst).t 64 D.any), (List.getD ((x46).fst).t 65 D.any), (List.getD ((x46).fst).t 66 D.any), (List.getD ((x46).fst).t 67 D.any), (List.getD ((x46).fst).t 68 D.any), (List.getD ((x46).fst).t 69 D.any), (List.getD ((x46).fst).t 70 D.any), (List.getD ((x46).fst).t 71 D.any), (List.getD ((x46).fst).t 72 D.any), (List.getD ((x46).fst).t 73 D.any), (List.getD ((x46).fst).t 74 D.any), (List.getD ((x46).fst).t 75 D.any), (List.getD ((x46).fst).t 76 D.any), (List.getD ((x46).fst).t 77 D.any), (List.getD ((x46).fst).t 78 D.any), (List.getD ((x46).fst).t 79 D.any), (List.getD ((x46).fst).t 80 D.any), (List.getD ((x46).fst).t 81 D.any), (List.getD ((x46).fst).t 82 D.any), (List.getD ((x46).fst).t 83 D.any), (List.getD ((x46).fst).t 84 D.any), (List.getD ((x46).fst).t 85 D.any), (List.getD ((x46).fst).t 86 D.any), (List.getD ((x46).fst).t 87 D.any), (List.getD ((x46).fst).t 88 D.any), (List.getD ((x46).fst).t 89 D.any), (List.getD ((x46).fst).t 90 D.any), (List.getD ((x46).fst).t 91 D.any), (List.getD ((x46).fst).t 92 D.any), (List.getD ((x46).fst).t 93 D.any), (List.getD ((x46).fst).t 94 D.any), (List.getD ((x46).fst).t 95 D.any), (List.getD ((x46).fst).t 96 D.any), (List.getD ((x46).fst).t 97 D.any), (List.getD ((x46).fst).t 98 D.any), (List.getD ((x46).fst).t 99 D.any), (List.getD ((x46).fst).t 100 D.any), (List.getD ((x46).fst).t 101 D.any), (List.getD ((x46).fst).t 102 D.any), (List.getD ((x46).fst).t 103 D.any), (List.getD ((x46).fst).t 5 D.any), x47, x48, (x49).fst, (D.bool Bool.true), (D.sl Own.full 1 []), (List.getD ((x46).fst).t 0 D.any), (List.getD ((x46).fst).t 5 D.any), x52, x53, x54, (List.getD ((x46).fst).t 5 D.any), x55, x56, x57, (List.getD ((x46).fst).t 13 D.any), x58, x59, (x60).fst, x61, (List.getD ((x46).fst).t 5 D.any), (List.getD ((x46).fst).t 5 D.any), x63, x64, (x65).fst, (List.getD ((x46).fst).t 13 D.any), x66, x67, x68, x70, (x71).fst, (x72).fst, (x73).fst, (x74).fst, x75, (List.getD ((x46).fst).t 139 D.any), (List.getD ((x46).fst).t 140 D.any), (List.getD ((x46).fst).t 141 D.any), (List.getD ((x46).fst).t 142 D.any), (List.getD ((x46).fst).t 143 D.any), (List.getD ((x46).fst).t 144 D.any), (List.getD ((x46).fst).t 145 D.any), (List.getD ((x46).fst).t 146 D.any), (List.getD ((x46).fst).t 147 D.any), (List.getD ((x46).fst).t 148 D.any), (List.getD ((x46).fst).t 149 D.any), (List.getD ((x46).fst).t 150 D.any), (List.getD ((x46).fst).t 151 D.any), (List.getD ((x46).fst).t 152 D.any), (List.getD ((x46).fst).t 153 D.any), (List.getD ((x46).fst).t 154 D.any), (List.getD ((x46).fst).t 155 D.any), (List.getD ((x46).fst).t 156 D.any), (List.getD ((x46).fst).t 157 D.any)] ((x46).fst).df), (x76).snd)))))))))))))))))))))))))))))
 (Option.some (Sum.inl ((Env.mk [(List.getD ((x46).fst).t 0 D.any), (List.getD ((x46).fst).t 1 D.any), (List.getD ((x46).fst).t 2 D.any), (List.getD ((x46).fst).t 3 D.any), (List.getD ((x46).fst).t 4 D.any), (List.getD ((x46).fst).t 5 D.any), (List.getD ((x46).fst).t 6 D.any), (List.getD ((x46).fst).t 7 D.any), (List.getD ((x46).fst).t 8 D.any), (List.getD ((x46).fst).t 9 D.any), (List.getD ((x46).fst).t 10 D.any), (List.getD ((x46).fst).t 11 D.any), (List.getD ((x46).fst).t 12 D.any), (List.getD ((x46).fst).t 13 D.any), (List.getD ((x46).fst).t 14 D.any), (List.getD ((x46).fst).t 15 D.any), (List.getD ((x46).fst).t 16 D.any), (List.getD ((x46).fst).t 17 D.any), (List.getD ((x46).fst).t 18 D.any), (List.getD ((x46).fst).t 19 D.any), (List.getD ((x46).fst).t 20 D.any), (List.getD ((x46).fst).t 21 D.any), (List.getD ((x46).fst).t 22 D.any), (List.getD ((x46).fst).t 23 D.any), (List.getD ((x46).fst).t 24 D.any), (List.getD ((x46).fst).t 25 D.any), (List.getD ((x46).fst).t 26 D.any), (List.getD ((x46).fst).t 27 D.any), (List.getD ((x46).fst).t 28 D.any), (List.getD ((x46).fst).t 29 D.any), (List.getD ((x46).fst).t 30 D.any), (List.getD ((x46).fst).t 31 D.any), (List.getD ((x46).fst).t 32 D.any), (List.getD ((x46).fst).t 33 D.any), (List.getD ((x46).fst).t 34 D.any), (List.getD ((x46).fst).t 35 D.any), (List.getD ((x46).fst).t 36 D.any), (List.getD ((x46).fst).t 37 D.any), (List.getD ((x46).fst).t 38 D.any), (List.getD ((x46).fst).t 39 D.any), (List.getD ((x46).fst).t 40 D.any), (List.getD ((x46).fst).t 41 D.any), (List.getD ((x46).fst).t 42 D.any), (List.getD ((x46).fst).t 43 D.any), (List.getD ((x46).fst).t 44 D.any), (List.getD ((x46).fst).t 45 D.any), (List.getD ((x46).fst).t 46 D.any), (List.getD ((x46).fst).t 47 D.any), (List.getD ((x46).fst).t 48 D.any), (List.getD ((x46).fst).t 49 D.any), (List.getD ((x46).fst).t 50 D.any), (List.getD ((x46).fst).t 51 D.any), (List.getD ((x46).fst).t 52 D.any), (List.getD ((x46).fst).t 53 D.any), (List.getD ((x46).fst).t 54 D.any), (List.getD ((x46).fst).t 55 D.any), (List.getD ((x46).fst).t 56 D.any), (List.getD ((x46).fst).t 57 D.any), (List.getD ((x46).fst).t 58 D.any), (List.getD ((x46).fst).t 59 D.any), (List.getD ((x46).fst).t 60 D.any), (List.getD ((x46).fst).t 61 D.any), (List.getD ((x46).fst).t 62 D.any), (List.getD ((x46).fst).t 63 D.any), (List.getD ((x46).fst).t 64 D.any), (List.getD ((x46).fst).t 65 D.any), (List.getD ((x46).fst).t 66 D.any), (List.getD ((x46).fst).t 67 D.any), (List.getD ((x46).fst).t 68 D.any), (List.getD ((x46).fst).t 69 D.any), (List.getD ((x46).fst).t 70 D.any), (List.getD ((x46).fst).t 71 D.any), (List.getD ((x46).fst).t 72 D.any), (List.getD ((x46).fst).t 73 D.any), (List.getD ((x46).fst).t 74 D.any), (List.getD ((x46).fst).t 75 D.any), (List.getD ((x46).fst).t 76 D.any), (List.getD ((x46).fst).t 77 D.any), (List.getD ((x46).fst).t 78 D.any), (List.getD ((x46).fst).t 79 D.any), (List.getD ((x46).fst).t 80 D.any), (List.getD ((x46).fst).t 81 D.any), (List.getD ((x46).fst).t 82 D.any), (List.getD ((x46).fst).t 83 D.any), (List.getD ((x46).fst).t 84 D.any), (List.getD ((x46).fst).t 85 D.any), (List.getD ((x46).fst).t 86 D.any), (List.getD ((x46).fst).t 87 D.any), (List.getD ((x46).fst).t 88 D.any), (List.getD ((x46).fst).t 89 D.any), (List.getD ((x46).fst).t 90 D.any), (List.getD ((x46).fst).t 91 D.any), (List.getD ((x46).fst).t 92 D.any), (List.getD ((x46).fst).t 93 D.any), (List.getD ((x46).fst).t 94 D.any), (List.getD ((x46).fst).t 95 D.any), (List.getD ((x46).fst).t 96 D.any), (List.getD ((x46).fst).t 97 D.any), (List.getD ((x46).fst).t 98 D.any), (List.getD ((x46).fst).t 99 D.any), (List.getD ((x46).fst).t 100 D.any), (List.getD ((x46).fst).t 101 D.any), (List.getD ((x46).fst).t 102 D.any), (List.getD ((x46).fst).t 103 D.any), (List.getD ((x46).fst).t 5 D.any), x47, x48, (x49).fst, (D.bool Bool.false), (List.getD ((x46).fst).t 109 D.any), (List.getD ((x46).fst).t 110 D.any), (List.getD ((x46).fst).t 111 D.any), (List.getD ((x46).fst).t 112 D.any), (List.getD ((x46).fst).t 113 D.any), (List.getD ((x46).fst).t 114 D.any), (List.getD ((x46).fst).t 115 D.any), (List.getD ((x46).fst).t 116 D.any), (List.getD ((x46).fst).t 117 D.any), (List.getD ((x46).fst).t 118 D.any), (List.getD ((x46).fst).t 119 D.any), (List.getD ((x46).fst).t 120 D.any), (List.getD ((x46).fst).t 121 D.any), (List.getD ((x46).fst).t 122 D.any), (List.getD ((x46).fst).t 123 D.any), (List.getD ((x46).fst).t 124 D.any), (List.getD ((x46).fst).t 125 D.any), (List.getD ((x46).fst).t 126 D.any), (List.getD ((x46).fst).t 127 D.any), (List.getD ((x46).fst).t 128 D.any), (List.getD ((x46).fst).t 129 D.any), (List.getD ((x46).fst).t 130 D.any), (List.getD ((x46).fst).t 131 D.any), (List.getD ((x46).fst).t 132 D.any), (List.getD ((x46).fst).t 133 D.any), (List.getD ((x46).fst).t 134 D.any), (List.getD ((x46).fst).t 135 D.any), (List.getD ((x46).fst).t 136 D.any), (List.getD ((x46).fst).t 137 D.any), (List.getD ((x46).fst).t 138 D.any), (List.getD ((x46).fst).t 139 D.any), (List.getD ((x46).fst).t 140 D.any), (List.getD ((x46).fst).t 141 D.any), (List.getD ((x46).fst).t 142 D.any), (List.getD ((x46).fst).t 143 D.any), (List.getD ((x46).fst).t 144 D.any), (List.getD ((x46).fst).t 145 D.any), (List.getD ((x46).fst).t 146 D.any), (List.getD ((x46).fst).t 147 D.any), (List.getD ((x46).fst).t 148 D.any), (List.getD ((x46).fst).t 149 D.any), (List.getD ((x46).fst).t 150 D.any), (List.getD ((x46).fst).t 151 D.any), (List.getD ((x46).fst).t 152 D.any), (List.getD ((x46).fst).t 153 D.any), (List.getD ((x46).fst).t 154 D.any), (List.getD ((x46).fst).t 155 D.any), (List.getD ((x46).fst).t 156 D.any), (List.getD ((x46).fst).t 157 D.any)] ((x46).fst).df), (x49).snd)))) fun (x52 : ((Env × St) ⊕ ((Env × St) ⊕ (Res × St)))) =>
 (Sum.elim (fun (x53 : (Env × St)) => (bn (binO BinOp.add 3 Bool.true (List.getD ((x53).fst).t 11 D.any) (D.int IntKind.i64 (1 : Int))) fun (x54 : D) =>
 (Option.some (Sum.inl ((Env.mk [(List.getD ((x53).fst).t 0 D.any), D.any, (List.getD ((x53).fst).t 2 D.any), D.any, D.any, (List.getD ((x53).fst).t 5 D.any), (List.getD ((x53).fst).t 6 D.any), (List.getD ((x53).fst).t 7 D.any), D.any, D.any, D.any, x54, D.any, D.any, D.any, D.any, D.any, D.any, D.any, D.any, D.any, D.any, D.any, D.any, D.any, D.any, D.any, D.any, D.any, D.any, D.any, D.any, D.any, D.any, D.any, D.any, D.any, D.any, D.any, D.any, (List.getD ((x53).fst).t 40 D.any), D.any, D.any, D.any, D.any, D.any, D.any, D.any, D.any, D.any, D.any, D.any, D.any, D.any, D.any, D.any, D.any, D.any, D.any, D.any, D.any, D.any, D.any, D.any, D.any, D.any, D.any, D.any, D.any, D.any, D.any, D.any, D.any, D.any, D.any, D.any, D.any, D.any, D.any, D.any, D.any, D.any, D.any, D.any, D.any, D.any, D.any, D.any, D.any, D.any, D.any, D.any, D.any, D.any, D.any, D.any, D.any, D.any, D.any, D.any, D.any, D.any, D.any, D.any, D.any, D.any, D.any, D.any, D.any, D.any, D.any, D.any, D.any, D.any, D.any, D.any, D.any, D.any, D.any, D.any, D.any, D.any, D.any, D.any, D.any, D.any, D.any, D.any, D.any, D.any, D.any, D.any, D.any, D.any, D.any, D.any, D.any, D.any, D.any, D.any, D.any, D.any, D.any, D.any, D.any, D.any, D.any, D.any, D.any, D.any, D.any, D.any, D.any, D.any, D.any, D.any, D.any, D.any] ((x53).fst).df), (x53).snd))))) (fun (x53 : ((Env × St) ⊕ (Res × St))) => (Option.some x53)) x52)))))))) (fun (x46 : ((Env × St) ⊕ (Res × St))) => (Option.some x46)) x45)))))))))))))))))))))))))))) (fun (x19 : D) => (Option.map (Sum.inr ) (bn (leavesD dcall (fun (x20 : St) => (Option.map packD (Option.bind (loadO Bool.true 4 (List.getD (e).t 2 D.any) x20) (fun (x21 : D) => (Option.some [x21, (List.getD (e).t 3 D.any), (List.getD (e).t 4 D.any)]))))) (e).df (Option.some x19) (x18).snd) fun (x20 : (Res × St)) =>
 (leaveD RetK.trunc A (x20).fst (x20).snd)))))))))) (fun (x14 : D) => (Option.map (Sum.inr ) (bn (leavesD dcall (fun (x15 : St) => (Option.map packD (Option.bind (loadO Bool.true 4 (List.getD (e).t 2 D.any) x15) (fun (x16 : D) => (Option.some [x16, (List.getD (e).t 3 D.any), (List.getD (e).t 4 D.any)]))))) (e).df (Option.some x14) (x13).snd) fun (x15 : (Res × St)) =>
 (leaveD RetK.trunc A (x15).fst (x15).snd))))))
 (Option.map (Sum.inr ) (bn (nilCheckD (List.getD (e).t 5 D.any)) fun (x13 : D) =>
 (bn (fieldAddrO 2 x13) fun (x14 : D) =>
 (bn (Option.map (fun (x15 : D) => (x15, (x8).snd)) (loadO Bool.false 1 x14 (x8).snd)) fun (x15 : (D × St)) =>
 (bn (guardB Bool.false (x15).fst) fun (x16 : Bool) =>
 (bn (ifb x16 (Option.some (List.getD (e).t 5 D.any))
 (Option.some (D.tup []))) fun (x17 : D) =>
 (bn (guardB Bool.false (x15).fst) fun (x18 : Bool) =>
 (bn (ifb x18 (nilCheckD x17)
 (Option.some (D.tup []))) fun (x19 : D) =>
 (bn (guardB Bool.false (x15).fst) fun (x20 : Bool) =>
 (bn (ifb x20 (fieldAddrO 1 x19)
 (Option.some (D.tup []))) fun (x21 : D) =>
 (bn (guardB Bool.false (x15).fst) fun (x22 : Bool) =>
 (bn (ifb x22 (Option.map (fun (x23 : D) => (x23, (x15).snd)) (loadO Bool.false 1 x21 (x15).snd))
 (Option.some ((D.tup []), (x15).snd))) fun (x23 : (D × St)) =>
 (bn (guardB Bool.false (x15).fst) fun (x24 : Bool) =>
 (bn (ifb x24 (Option.some (List.getD (e).t 0 D.any))
 (Option.some (D.tup []))) fun (x25 : D) =>
 (bn (guardB Bool.false (x15).fst) fun (x26 : Bool) =>
 (bn (ifb x26 (lenSlO x25)
 (Option.some (D.tup []))) fun (x27 : D) =>
 (bn (guardB Bool.false (x15).fst) fun (x28 : Bool) =>
 (bn (ifb x28 (binO BinOp.lss 3 Bool.false (x23).fst x27)
 (Option.some (D.tup []))) fun (x29 : D) =>
 (bn (Option.map (fun (x30 : Bool) => (ifb x30 (D.bool Bool.true)
 x29)) (D.bool? (x15).fst)) fun (x30 : D) =>
 (bn (D.bool? x30) fun (x31 : Bool) =>
 (ifb x31 (bn (nilCheckD (List.getD (e).t 5 D.any)) fun (x32 : D) =>
 (bn (fieldAddrO 1 x32) fun (x33 : D) =>
 (bn (Option.map (fun (x34 : (D × St)) => (x34).fst) (Option.map (fun (x34 : D) => (x34, (x23).snd)) (loadO Bool.false 1 x33 (x23).snd))) fun (x34 : D) =>
 (bn (Option.map (fun (x35 : St) => ((D.tup []), x35)) (storeO Bool.true 4 (List.getD (e).t 2 D.any) (D.agg [(D.int IntKind.i64 (0 : Int)), (D.int IntKind.i64 (0 : Int)), (D.sl Own.full 0 []), (D.sl Own.full 0 [])]) (x23).snd)) fun (x35 : (D × St)) =>
 (guardP ((sameAd x33 (x23).snd (x35).snd) ∧ True) (bn (leavesD dcall (fun (x36 : St) => (Option.map packD (Option.bind (loadO Bool.true 4 (List.getD (e).t 2 D.any) x36) (fun (x37 : D) => (Option.some [x37, x34, (D.int IntKind.i64 (180 : Int))]))))) (e).df none (x35).snd) fun (x36 : (Res × St)) =>
 (leaveD RetK.trunc A (x36).fst (x36).snd)))))))
 (bn (Option.map (fun (x32 : D) => (x32, (x23).snd)) (loadO Bool.true 4 (List.getD (e).t 6 D.any) (x23).snd)) fun (x32 : (D × St)) =>
 (bn (Option.map (fun (x33 : St) => ((D.tup []), x33)) (storeO Bool.true 4 (List.getD (e).t 2 D.any) (x32).fst (x32).snd)) fun (x33 : (D × St)) =>
 (bn (leavesD dcall (fun (x34 : St) => (Option.map packD (Option.bind (loadO Bool.true 4 (List.getD (e).t 2 D.any) x34) (fun (x35 : D) => (Option.some [x35, (D.int IntKind.i64 (0 : Int)), (D.int IntKind.i64 (0 : Int))]))))) (e).df none (x33).snd) fun (x34 : (Res × St)) =>
 (leaveD RetK.trunc A (x34).fst (x34).snd)))))))))))))))))))))))))))))))))))))))
noncomputable def f16_s1 (call : (FuncId → ((List D) → (St → ORes)))) (dcall : (D → ((List D) → ((Option D) → (St → (Option ((Option D) × St))))))) (A : St) (e : Env) (Av4 : St) : (Option ((Env × St) ⊕ (Res × St))) :=
  (bn (binO BinOp.lss 3 Bool.false (List.getD (e).t 9 D.any) (List.getD (e).t 7 D.any)) fun (x0 : D) =>
 (bn (guardB Bool.true x0) fun (x1 : Bool) =>
 (bn (ifb x1 (Option.some (List.getD (e).t 5 D.any))
 (Option.some (D.tup []))) fun (x2 : D) =>
 (bn (guardB Bool.true x0) fun (x3 : Bool) =>
 (bn (ifb x3 (nilCheckD x2)
 (Option.some (D.tup []))) fun (x4 : D) =>
 (bn (guardB Bool.true x0) fun (x5 : Bool) =>
 (bn (ifb x5 (fieldAddrO 2 x4)
 (Option.some (D.tup []))) fun (x6 : D) =>
 (bn (guardB Bool.true x0) fun (x7 : Bool) =>
 (bn (ifb x7 (Option.map (fun (x8 : D) => (x8, Av4)) (loadO Bool.false 1 x6 Av4))
 (Option.some ((D.tup []), Av4))) fun (x8 : (D × St)) =>
 (bn (guardB Bool.true x0) fun (x9 : Bool) =>
 (bn (ifb x9 (unD UnOp.not (x8).fst)
 (Option.some (D.tup []))) fun (x10 : D) =>
 (bn (Option.map (fun (x11 : Bool) => (ifb x11 x10
 (D.bool Bool.false))) (D.bool? x0)) fun (x11 : D) =>
 (bn (D.bool? x11) fun (x12 : Bool) =>
 (ifb x12 (bn (call 37 [(List.getD (e).t 5 D.any), (List.getD (e).t 8 D.any)] (x8).snd) fun (x13 : (Res × St)) =>
 (Res.elim (x13).fst (fun (x14 : D) => (bn (allocO [(D.int IntKind.i64 (0 : Int)), (D.int IntKind.u64 (0 : Int))] (x13).snd) fun (x15 : (D × St)) =>
 (bn (Option.map (fun (x16 : St) => ((D.tup []), x16)) (storeO Bool.true 2 (x15).fst x14 (x15).snd)) fun (x16 : (D × St)) =>
 (bn (fieldAddrO 0 (x15).fst) fun (x17 : D) =>
 (bn (Option.map (fun (x18 : D) => (x18, (x16).snd)) (loadO Bool.false 1 x17 (x16).snd)) fun (x18 : (D × St)) =>
 (bn (fieldAddrO 2 (List.getD (e).t 6 D.any)) fun (x19 : D) =>
 (bn (Option.map (fun (x20 : D) => (x20, (x18).snd)) (loadO Bool.false 1 x19 (x18).snd)) fun (x20 : (D × St)) =>
 (bn (Option.map (fun (x21 : D) => (x21, (x20).snd)) (loadO Bool.true 2 (x15).fst (x20).snd)) fun (x21 : (D × St)) =>
 (bn (Option.map (fun (x22 : D) => (x22, (x21).snd)) (Option.map (D.sl Own.full 2) (sliceParts 2 Bool.true 0 [(0, (x21).fst)]))) fun (x22 : (D × St)) =>
 (bn (appendO 2 16 (x20).fst (x22).fst (x22).snd) fun (x23 : (D × St)) =>
 (bn (fieldAddrO 2 (List.getD (e).t 6 D.any)) fun (x24 : D) =>
 (bn (Option.map (fun (x25 : St) => ((D.tup []), x25)) (storeO Bool.false 1 x24 (x23).fst (x23).snd)) fun (x25 : (D × St)) =>
 (bn (binO BinOp.add 3 Bool.true (List.getD (e).t 9 D.any) (D.int IntKind.i64 (1 : Int))) fun (x26 : D) =>
 (Option.some (Sum.inl ((Env.mk [(List.getD (e).t 0 D.any), D.any, (List.getD (e).t 2 D.any), D.any, D.any, (List.getD (e).t 5 D.any), (List.getD (e).t 6 D.any), (List.getD (e).t 7 D.any), (x18).fst, x26, D.any, D.any, D.any, D.any, D.any, D.any, D.any, D.any, D.any, D.any, D.any, D.any, D.any, D.any, D.any, D.any, D.any, D.any, D.any, D.any, D.any, D.any, D.any, D.any, D.any, D.any, D.any, D.any, D.any, D.any, D.any, D.any, D.any, D.any, D.any, D.any, D.any, D.any, D.any, D.any, D.any, D.any, D.any, D.any, D.any, D.any, D.any, D.any, D.any, D.any, D.any, D.any, D.any, D.any, D.any, D.any, D.any, D.any, D.any, D.any, D.any, D.any, D.any, D.any, D.any, D.any, D.any, D.any, D.any, D.any, D.any, D.any, D.any, D.any, D.any, D.any, D.any, D.any, D.any, D.any, D.any, D.any, D.any, D.any, D.any, D.any, D.any, D.any, D.any, D.any, D.any, D.any, D.any, D.any, D.any, D.any, D.any, D.any, D.any, D.any, D.any, D.any, D.any, D.any, D.any, D.any, D.any, D.any, D.any, D.any, D.any, D.any, D.any, D.any, D.any, D.any, D.any, D.any, D.any, D.any, D.any, D.any, D.any, D.any, D.any, D.any, D.any, D.any, D.any, D.any, D.any, D.any, D.any, D.any, D.any, D.any, D.any, D.any, D.any, D.any, D.any, D.any, D.any, D.any, D.any, D.any, D.any, D.any] (e).df), (x25).snd)))))))))))))))) (fun (x14 : D) => (Option.map (Sum.inr ) (bn (leavesD dcall (fun (x15 : St) => (Option.map packD (Option.bind (loadO Bool.true 4 (List.getD (e).t 2 D.any) x15) (fun (x16 : D) => (Option.some [x16, (List.getD (e).t 3 D.any), (List.getD (e).t 4 D.any)]))))) (e).df (Option.some x14) (x13).snd) fun (x15 : (Res × St)) =>
 (leaveD RetK.trunc A (x15).fst (x15).snd))))))
 (Option.map (Sum.inr ) (bn (call 36 [(List.getD (e).t 5 D.any), (D.int IntKind.i64 (2 : Int)), (D.int IntKind.u64 (0 : Int)), (D.int IntKind.u64 (256 : Int))] (x8).snd) fun (x13 : (Res × St)) =>
 (Res.elim (x13).fst (fun (x14 : D) => (bn (convO (ConvK.int IntKind.i64) x14) fun (x15 : D) =>
 (iterK (f16_s0 call dcall A) (Env.mk [(List.getD (e).t 0 D.any), D.any, (List.getD (e).t 2 D.any), D.any, D.any, (List.getD (e).t 5 D.any), (List.getD (e).t 6 D.any), x15, D.any, D.any, D.any, (D.int IntKind.i64 (0 : Int)), D.any, D.any, D.any, D.any, D.any, D.any, D.any, D.any, D.any, D.any, D.any, D.any, D.any, D.any, D.any, D.any, D.any, D.any, D.any, D.any, D.any, D.any, D.any, D.any, D.any, D.any, D.any, D.any, (x8).fst, D.any, D.any, D.any, D.any, D.any, D.any, D.any, D.any, D.any, D.any, D.any, D.any, D.any, D.any, D.any, D.any, D.any, D.any, D.any, D.any, D.any, D.any, D.any, D.any, D.any, D.any, D.any, D.any, D.any, D.any, D.any, D.any, D.any, D.any, D.any, D.any, D.any, D.any, D.any, D.any, D.any, D.any, D.any, D.any, D.any, D.any, D.any, D.any, D.any, D.any, D.any, D.any, D.any, D.any, D.any, D.any, D.any, D.any, D.any, D.any, D.any, D.any, D.any, D.any, D.any, D.any, D.any, D.any, D.any, D.any, D.any, D.any, D.any, D.any, D.any, D.any, D.any, D.any, D.any, D.any, D.any, D.any, D.any, D.any, D.any, D.any, D.any, D.any, D.any, D.any, D.any, D.any, D.any, D.any, D.any, D.any, D.any, D.any, D.any, D.any, D.any, D.any, D.any, D.any, D.any, D.any, D.any, D.any, D.any, D.any, D.any, D.any, D.any, D.any, D.any, D.any, D.any] (e).df) (x13).snd))) (fun (x14 : D) => (bn (leavesD dcall (fun (x15 : St) => (Option.map packD (Option.bind (loadO Bool.true 4 (List.getD (e).t 2 D.any) x15) (fun (x16 : D) => (Option.some [x16, (List.getD (e).t 3 D.any), (List.getD (e).t 4 D.any)]))))) (e).df (Option.some x14) (x13).snd) fun (x15 : (Res × St)) =>
 (leaveD RetK.trunc A (x15).fst (x15).snd))))))))))))))))))))
noncomputable def f16 (call : (FuncId → ((List D) → (St → ORes)))) (dcall : (D → ((List D) → ((Option D) → (St → (Option ((Option D) × St))))))) (a0 : D) (A : St) : (Option (Res × St)) :=
  (bn (allocO [(D.int IntKind.i64 (0 : Int)), (D.int IntKind.i64 (0 : Int)), (D.sl Own.full 0 []), (D.sl Own.full 0 [])] A) fun (x0 : (D × St)) =>
 (bn (lenSlO a0) fun (x1 : D) =>
 (bn (binO BinOp.gtr 3 Bool.true x1 (D.int IntKind.i64 (1048576 : Int))) fun (x2 : D) =>
 (bn (D.bool? x2) fun (x3 : Bool) =>
 (ifb x3 (bn (Option.map (fun (x4 : St) => ((D.tup []), x4)) (storeO Bool.true 4 (x0).fst (D.agg [(D.int IntKind.i64 (0 : Int)), (D.int IntKind.i64 (0 : Int)), (D.sl Own.full 0 []), (D.sl Own.full 0 [])]) (x0).snd)) fun (x4 : (D × St)) =>
 (bn (Option.map (fun (x5 : D) => ((Res.ret x5), (x4).snd)) (Option.map packD (Option.bind (loadO Bool.true 4 (x0).fst (x4).snd) (fun (x5 : D) => (Option.some [x5, (D.int IntKind.i64 (0 : Int)), (D.int IntKind.i64 (2 : Int))]))))) fun (x5 : (Res × St)) =>
 (leaveD RetK.trunc A (x5).fst (x5).snd)))
 (bn (Option.map D.agg (Option.bind (layCells Bool.false 1 0 [(D.sl Own.full 0 []), (D.int IntKind.i64 (0 : Int)), (D.bool Bool.false)] a0) (fun (x4 : (List D)) => (Option.some x4)))) fun (x4 : D) =>
 (bn (boxO Bool.true x4 (x0).snd) fun (x5 : (D × St)) =>
 (bn (call 36 [(x5).fst, (D.int IntKind.i64 (1 : Int)), (D.int IntKind.u64 (82 : Int)), (D.int IntKind.u64 (82 : Int))] (x5).snd) fun (x6 : (Res × St)) =>
 (Res.elim (x6).fst (fun (x7 : D) => (bn (call 36 [(x5).fst, (D.int IntKind.i64 (2 : Int)), (D.int IntKind.u64 (0 : Int)), (D.int IntKind.u64 (63 : Int))] (x6).snd) fun (x8 : (Res × St)) =>
 (Res.elim (x8).fst (fun (x9 : D) => (bn (convO (ConvK.int IntKind.i64) x9) fun (x10 : D) =>
 (bn (call 36 [(x5).fst, (D.int IntKind.i64 (4 : Int)), (D.int IntKind.u64 (0 : Int)), (D.int IntKind.u64 (16383 : Int))] (x8).snd) fun (x11 : (Res × St)) =>
 (Res.elim (x11).fst (fun (x12 : D) => (bn (convO (ConvK.int IntKind.i64) x12) fun (x13 : D) =>
 (bn (Option.map D.agg (Option.bind (layCells Bool.false 1 0 [(D.int IntKind.i64 (0 : Int)), (D.int IntKind.i64 (0 : Int)), (D.sl Own.full 0 []), (D.sl Own.full 0 [])] x10) (fun (x14 : (List D)) => (Option.bind (layCells Bool.false 1 1 x14 x13) (fun (x15 : (List D)) => (Option.some x15)))))) fun (x14 : D) =>
 (bn (allocO [(D.int IntKind.i64 (0 : Int)), (D.int IntKind.i64 (0 : Int)), (D.sl Own.full 0 []), (D.sl Own.full 0 [])] (x11).snd) fun (x15 : (D × St)) =>
 (bn (Option.map (fun (x16 : St) => ((D.tup []), x16)) (storeO Bool.true 4 (x15).fst x14 (x15).snd)) fun (x16 : (D × St)) =>
 (bn (call 36 [(x5).fst, (D.int IntKind.i64 (2 : Int)), (D.int IntKind.u64 (0 : Int)), (D.int IntKind.u64 (256 : Int))] (x16).snd) fun (x17 : (Res × St)) =>
 (Res.elim (x17).fst (fun (x18 : D) => (bn (convO (ConvK.int IntKind.i64) x18) fun (x19 : D) =>
 (iterK (f16_s1 call dcall A) (Env.mk [a0, D.any, (x0).fst, D.any, D.any, (x5).fst, (x15).fst, x19, (D.int IntKind.i64 (-1 : Int)), (D.int IntKind.i64 (0 : Int)), D.any, D.any, D.any, D.any, D.any, D.any, D.any, D.any, D.any, D.any, D.any, D.any, D.any, D.any, D.any, D.any, D.any, D.any, D.any, D.any, D.any, D.any, D.any, D.any, D.any, D.any, D.any, D.any, D.any, D.any, D.any, D.any, D.any, D.any, D.any, D.any, D.any, D.any, D.any, D.any, D.any, D.any, D.any, D.any, D.any, D.any, D.any, D.any, D.any, D.any, D.any, D.any, D.any, D.any, D.any, D.any, D.any, D.any, D.any, D.any, D.any, D.any, D.any, D.any, D.any, D.any, D.any, D.any, D.any, D.any, D.any, D.any, D.any, D.any, D.any, D.any, D.any, D.any, D.any, D.any, D.any, D.any, D.any, D.any, D.any, D.any, D.any, D.any, D.any, D.any, D.any, D.any, D.any, D.any, D.any, D.any, D.any, D.any, D.any, D.any, D.any, D.any, D.any, D.any, D.any, D.any, D.any, D.any, D.any, D.any, D.any, D.any, D.any, D.any, D.any, D.any, D.any, D.any, D.any, D.any, D.any, D.any, D.any, D.any, D.any, D.any, D.any, D.any, D.any, D.any, D.any, D.any, D.any, D.any, D.any, D.any, D.any, D.any, D.any, D.any, D.any, D.any, D.any, D.any, D.any, D.any, D.any, D.any] []) (x17).snd))) (fun (x18 : D) => (leaveD RetK.trunc A (Res.pan x18) (x17).snd))))))))) (fun (x12 : D) => (leaveD RetK.trunc A (Res.pan x12) (x11).snd)))))) (fun (x9 : D) => (leaveD RetK.trunc A (Res.pan x9) (x8).snd))))) (fun (x7 : D) => (leaveD RetK.trunc A (Res.pan x7) (x6).snd)))))))))))
theorem r16 (a0 : D) (A : St) : Run Try.prog codecH 16 [a0] A = f16 (Run Try.prog codecH) (Dcall Try.prog codecH) a0 A := by
  rw [Run_eqK (J := k16)]
  kernel_rfl
noncomputable def f17_s0 (call : (FuncId → ((List D) → (St → ORes)))) (dcall : (D → ((List D) → ((Option D) → (St → (Option ((Option D) × St))))))) (A : St) (e : Env) (Av4 : St) : (Option ((Env × St) ⊕ (Res × St))) :=
  (bn (fieldAddrO 3 (List.getD (e).t 2 D.any)) fun (x0 : D) =>
 (bn (Option.map (fun (x1 : D) => (x1, Av4)) (loadO Bool.false 1 x0 Av4)) fun (x1 : (D × St)) =>
 (bn (lenSlO (x1).fst) fun (x2 : D) =>
 (bn (binO BinOp.lss 3 Bool.false (List.getD (e).t 5 D.any) x2) fun (x3 : D) =>
 (bn (D.bool? x3) fun (x4 : Bool) =>
 (ifb x4 (bn (fieldAddrO 3 (List.getD (e).t 2 D.any)) fun (x5 : D) =>
 (bn (Option.map (fun (x6 : (D × St)) => (x6).fst) (Option.map (fun (x6 : D) => (x6, (x1).snd)) (loadO Bool.false 1 x5 (x1).snd))) fun (x6 : D) =>
 (bn (indexAddrO 2 Bool.true x6 (List.getD (e).t 5 D.any)) fun (x7 : D) =>
 (bn (fieldAddrO 0 x7) fun (x8 : D) =>
 (bn (Option.map (fun (x9 : (D × St)) => (x9).fst) (Option.map (fun (x9 : D) => (x9, (x1).snd)) (loadO Bool.false 1 x8 (x1).snd))) fun (x9 : D) =>
 (bn (fieldAddrO 3 (List.getD (e).t 3 D.any)) fun (x10 : D) =>
 (bn (Option.map (fun (x11 : (D × St)) => (x11).fst) (Option.map (fun (x11 : D) => (x11, (x1).snd)) (loadO Bool.false 1 x10 (x1).snd))) fun (x11 : D) =>
 (bn (indexAddrO 2 Bool.true x11 (List.getD (e).t 5 D.any)) fun (x12 : D) =>
 (bn (fieldAddrO 0 x12) fun (x13 : D) =>
 (bn (Option.map (fun (x14 : (D × St)) => (x14).fst) (Option.map (fun (x14 : D) => (x14, (x1).snd)) (loadO Bool.false 1 x13 (x1).snd))) fun (x14 : D) =>
 (bn (binO BinOp.neq 3 Bool.false x9 x14) fun (x15 : D) =>
 (bn (guardB Bool.false x15) fun (x16 : Bool) =>
 (bn (ifb x16 (fieldAddrO 3 (List.getD (e).t 2 D.any))
 (Option.some (D.tup []))) fun (x17 : D) =>
 (bn (guardB Bool.false x15) fun (x18 : Bool) =>
 (bn (ifb x18 (Option.map (fun (x19 : (D × St)) => (x19).fst) (Option.map (fun (x19 : D) => (x19, (x1).snd)) (loadO Bool.false 1 x17 (x1).snd)))
 (Option.some (D.tup []))) fun (x19 : D) =>
 (bn (guardB Bool.false x15) fun (x20 : Bool) =>
 (bn (ifb x20 (Option.some (List.getD (e).t 5 D.any))
 (Option.some (D.tup []))) fun (x21 : D) =>
 (bn (guardB Bool.false x15) fun (x22 : Bool) =>
 (bn (ifb x22 (indexAddrO 2 Bool.true x19 x21)
 (Option.some (D.tup []))) fun (x23 : D) =>
 (bn (guardB Bool.false x15) fun (x24 : Bool) =>
 (bn (ifb x24 (fieldAddrO 1 x23)
 (Option.some (D.tup []))) fun (x25 : D) =>
 (bn (guardB Bool.false x15) fun (x26 : Bool) =>
 (bn (ifb x26 (Option.map (fun (x27 : (D × St)) => (x27).fst) (Option.map (fun (x27 : D) => (x27, (x1).snd)) (loadO Bool.false 1 x25 (x1).snd)))
 (Option.some (D.tup []))) fun (x27 : D) =>
 (bn (guardB Bool.false x15) fun (x28 : Bool) =>
 (bn (ifb x28 (convO ConvK.bytesStr x27)
 (Option.some (D.tup []))) fun (x29 : D) =>
 (bn (guardB Bool.false x15) fun (x30 : Bool) =>
 (bn (ifb x30 (fieldAddrO 3 (List.getD (e).t 3 D.any))
 (Option.some (D.tup []))) fun (x31 : D) =>
 (bn (guardB Bool.false x15) fun (x32 : Bool) =>
 (bn (ifb x32 (Option.map (fun (x33 : (D × St)) => (x33).fst) (Option.map (fun (x33 : D) => (x33, (x1).snd)) (loadO Bool.false 1 x31 (x1).snd)))
 (Option.some (D.tup []))) fun (x33 : D) =>
 (bn (guardB Bool.false x15) fun (x34 : Bool) =>
 (bn (ifb x34 (Option.some (List.getD (e).t 5 D.any))
 (Option.some (D.tup []))) fun (x35 : D) =>
 (bn (guardB Bool.false x15) fun (x36 : Bool) =>
 (bn (ifb x36 (indexAddrO 2 Bool.true x33 x35)
 (Option.some (D.tup []))) fun (x37 : D) =>
 (bn (guardB Bool.false x15) fun (x38 : Bool) =>
 (bn (ifb x38 (fieldAddrO 1 x37)
 (Option.some (D.tup []))) fun (x39 : D) =>
 (bn (guardB Bool.false x15) fun (x40 : Bool) =>
 (bn (ifb x40 (Option.map (fun (x41 : (D × St)) => (x41).fst) (Option.map (fun (x41 : D) => (x41, (x1).snd)) (loadO Bool.false 1 x39 (x1).snd)))
 (Option.some (D.tup []))) fun (x41 : D) =>
 (bn (guardB Bool.false x15) fun (x42 : Bool) =>
 (bn (ifb x42 (convO ConvK.bytesStr x41)
 (Option.some (D.tup []))) fun (x43 : D) =>
 (bn (guardB Bool.false x15) fun (x44 : Bool) =>
 (bn (ifb x44 (binO BinOp.neq 3 Bool.false x29 x43)
 (Option.some (D.tup []))) fun (x45 : D) =>
 (bn (Option.map (fun (x46 : Bool) => (ifb x46 (D.bool Bool.true)
 x45)) (D.bool? x15)) fun (x46 : D) =>
 (guardP True (bn (D.bool? x46) fun (x47 : Bool) =>
 (ifb x47 (Option.map (Sum.inr ) (bn (leavesD dcall (fun (x48 : St) => (Option.some (D.bool Bool.false))) (e).df none (x1).snd) fun (x48 : (Res × St)) =>
 (leaveD RetK.trunc A (x48).fst (x48).snd)))
 (bn (binO BinOp.add 3 Bool.true (List.getD (e).t 5 D.any) (D.int IntKind.i64 (1 : Int))) fun (x48 : D) =>
 (guardP (Kept Av4 (x1).snd) (Option.some (Sum.inl ((Env.mk [D.any, D.any, (D.shut (List.length Av4) (List.getD (e).t 2 D.any)), (D.shut (List.length Av4) (List.getD (e).t 3 D.any)), D.any, (D.shut (List.length Av4) x48), D.any, D.any, D.any, D.any, D.any, D.any, D.any, D.any, D.any, D.any, D.any, D.any, D.any, D.any, D.any, D.any, D.any, D.any, D.any, D.any, D.any, D.any, D.any, D.any, D.any, D.any, D.any, D.any, D.any, D.any, D.any, D.any, D.any, D.any, D.any, D.any, D.any, D.any, D.any, D.any, D.any, D.any, D.any, D.any, D.any, D.any, D.any, D.any, D.any, D.any, D.any, D.any, D.any, D.any, D.any, D.any, D.any, D.any, D.any, D.any, D.any, D.any, D.any, D.any, D.any, D.any] (List.map (fun (x49 : (D × (List D))) => ((D.shut (List.length Av4) x49.1), (D.shutL (List.length Av4) x49.2))) (e).df)), (List.take (List.length Av4) (x1).snd)))))))))))))))))))))))))))))))))))))))))))))))))))
 (Option.map (Sum.inr ) (bn (leavesD dcall (fun (x5 : St) => (Option.some (D.bool Bool.true))) (e).df none (x1).snd) fun (x5 : (Res × St)) =>
 (leaveD RetK.trunc A (x5).fst (x5).snd)))))))))
noncomputable def f17 (call : (FuncId → ((List D) → (St → ORes)))) (dcall : (D → ((List D) → ((Option D) → (St → (Option ((Option D) × St))))))) (a0 : D) (a1 : D) (A : St) : (Option (Res × St)) :=
  (bn (boxO Bool.true a0 A) fun (x0 : (D × St)) =>
 (bn (boxO Bool.true a1 (x0).snd) fun (x1 : (D × St)) =>
 (bn (fieldAddrO 0 (x0).fst) fun (x2 : D) =>
 (bn (Option.map (fun (x3 : D) => (x3, (x1).snd)) (loadO Bool.false 1 x2 (x1).snd)) fun (x3 : (D × St)) =>
 (bn (fieldAddrO 0 (x1).fst) fun (x4 : D) =>
 (bn (Option.map (fun (x5 : D) => (x5, (x3).snd)) (loadO Bool.false 1 x4 (x3).snd)) fun (x5 : (D × St)) =>
 (bn (binO BinOp.neq 3 Bool.false (x3).fst (x5).fst) fun (x6 : D) =>
 (bn (guardB Bool.false x6) fun (x7 : Bool) =>
 (bn (ifb x7 (fieldAddrO 1 (x0).fst)
 (Option.some (D.tup []))) fun (x8 : D) =>
 (bn (guardB Bool.false x6) fun (x9 : Bool) =>
 (bn (ifb x9 (Option.map (fun (x10 : D) => (x10, (x5).snd)) (loadO Bool.false 1 x8 (x5).snd))
 (Option.some ((D.tup []), (x5).snd))) fun (x10 : (D × St)) =>
 (bn (guardB Bool.false x6) fun (x11 : Bool) =>
 (bn (ifb x11 (fieldAddrO 1 (x1).fst)
 (Option.some (D.tup []))) fun (x12 : D) =>
 (bn (guardB Bool.false x6) fun (x13 : Bool) =>
 (bn (ifb x13 (Option.map (fun (x14 : D) => (x14, (x10).snd)) (loadO Bool.false 1 x12 (x10).snd))
 (Option.some ((D.tup []), (x10).snd))) fun (x14 : (D × St)) =>
 (bn (guardB Bool.false x6) fun (x15 : Bool) =>
 (bn (ifb x15 (binO BinOp.neq 3 Bool.false (x10).fst (x14).fst)
 (Option.some (D.tup []))) fun (x16 : D) =>
 (bn (Option.map (fun (x17 : Bool) => (ifb x17 (D.bool Bool.true)
 x16)) (D.bool? x6)) fun (x17 : D) =>
 (bn (guardB Bool.false x17) fun (x18 : Bool) =>
 (bn (ifb x18 (fieldAddrO 2 (x0).fst)
 (Option.some (D.tup []))) fun (x19 : D) =>
 (bn (guardB Bool.false x17) fun (x20 : Bool) =>
 (bn (ifb x20 (Option.map (fun (x21 : D) => (x21, (x14).snd)) (loadO Bool.false 1 x19 (x14).snd))
 (Option.some ((D.tup []), (x14).snd))) fun (x21 : (D × St)) =>
 (bn (guardB Bool.false x17) fun (x22 : Bool) =>
 (bn (ifb x22 (fieldAddrO 2 (x1).fst)
 (Option.some (D.tup []))) fun (x23 : D) =>
 (bn (guardB Bool.false x17) fun (x24 : Bool) =>
 (bn (ifb x24 (Option.map (fun (x25 : D) => (x25, (x21).snd)) (loadO Bool.false 1 x23 (x21).snd))
 (Option.some ((D.tup []), (x21).snd))) fun (x25 : (D × St)) =>
 (bn (guardB Bool.false x17) fun (x26 : Bool) =>
 (bn (ifb x26 (call 38 [(x21).fst, (x25).fst] (x25).snd)
 (Option.some ((Res.ret (D.tup [])), (x25).snd))) fun (x27 : (Res × St)) =>
 (Res.elim (x27).fst (fun (x28 : D) => (bn (guardB Bool.false x17) fun (x29 : Bool) =>
 (bn (ifb x29 (unD UnOp.not x28)
 (Option.some (D.tup []))) fun (x30 : D) =>
 (bn (Option.map (fun (x31 : Bool) => (ifb x31 (D.bool Bool.true)
 x30)) (D.bool? x17)) fun (x31 : D) =>
 (bn (guardB Bool.false x31) fun (x32 : Bool) =>
 (bn (ifb x32 (fieldAddrO 3 (x0).fst)
 (Option.some (D.tup []))) fun (x33 : D) =>
 (bn (guardB Bool.false x31) fun (x34 : Bool) =>
 (bn (ifb x34 (Option.map (fun (x35 : D) => (x35, (x27).snd)) (loadO Bool.false 1 x33 (x27).snd))
 (Option.some ((D.tup []), (x27).snd))) fun (x35 : (D × St)) =>
 (bn (guardB Bool.false x31) fun (x36 : Bool) =>
 (bn (ifb x36 (lenSlO (x35).fst)
 (Option.some (D.tup []))) fun (x37 : D) =>
 (bn (guardB Bool.false x31) fun (x38 : Bool) =>
 (bn (ifb x38 (fieldAddrO 3 (x1).fst)
 (Option.some (D.tup []))) fun (x39 : D) =>
 (bn (guardB Bool.false x31) fun (x40 : Bool) =>
 (bn (ifb x40 (Option.map (fun (x41 : D) => (x41, (x35).snd)) (loadO Bool.false 1 x39 (x35).snd))
 (Option.some ((D.tup []), (x35).snd))) fun (x41 : (D × St)) =>
 (bn (guardB Bool.false x31) fun (x42 : Bool) =>
 (bn (ifb x42 (lenSlO (x41).fst)
 (Option.some (D.tup []))) fun (x43 : D) =>
 (bn (guardB Bool.false x31) fun (x44 : Bool) =>
 (bn (ifb x44 (binO BinOp.neq 3 Bool.false x37 x43)
 (Option.some (D.tup []))) fun (x45 : D) =>
 (bn (Option.map (fun (x46 : Bool) => (ifb x46 (D.bool Bool.true)
 x45)) (D.bool? x31)) fun (x46 : D) =>
 (bn (D.bool? x46) fun (x47 : Bool) =>
 (ifb x47 (leaveD RetK.trunc A (Res.ret (D.bool Bool.false)) (x41).snd)
 (iterK (f17_s0 call dcall A) (Env.mk [D.any, D.any, (x0).fst, (x1).fst, D.any, (D.int IntKind.i64 (0 : Int)), D.any, D.any, D.any, D.any, D.any, D.any, D.any, D.any, D.any, D.any, D.any, D.any, D.any, D.any, D.any, D.any, D.any, D.any, D.any, D.any, D.any, D.any, D.any, D.any, D.any, D.any, D.any, D.any, D.any, D.any, D.any, D.any, D.any, D.any, D.any, D.any, D.any, D.any, D.any, D.any, D.any, D.any, D.any, D.any, D.any, D.any, D.any, D.any, D.any, D.any, D.any, D.any, D.any, D.any, D.any, D.any, D.any, D.any, D.any, D.any, D.any, D.any, D.any, D.any, D.any, D.any] []) (x41).snd)))))))))))))))))))))) (fun (x28 : D) => (leaveD RetK.trunc A (Res.pan x28) (x27).snd)))))))))))))))))))))))))))))))
theorem r17 (a0 a1 : D) (A : St) : Run Try.prog codecH 17 [a0, a1] A = f17 (Run Try.prog codecH) (Dcall Try.prog codecH) a0 a1 A := by
  rw [Run_eqK (J := k17)]
  kernel_rfl
noncomputable def f4 (call : (FuncId → ((List D) → (St → ORes)))) (dcall : (D → ((List D) → ((Option D) → (St → (Option ((Option D) × St))))))) (a0 : D) (A : St) : (Option (Res × St)) :=
  (bn (call 15 [a0] A) fun (x0 : (Res × St)) =>
 (Res.elim (x0).fst (fun (x1 : D) => (bn (extractD x1 0) fun (x2 : D) =>
 (bn (extractD x1 1) fun (x3 : D) =>
 (bn (extractD x1 2) fun (x4 : D) =>
 (bn (allocO [(D.int IntKind.i64 (0 : Int)), (D.int IntKind.i64 (0 : Int)), (D.sl Own.full 0 []), (D.sl Own.full 0 [])] (x0).snd) fun (x5 : (D × St)) =>
 (bn (Option.map (fun (x6 : St) => ((D.tup []), x6)) (storeO Bool.true 4 (x5).fst x2 (x5).snd)) fun (x6 : (D × St)) =>
 (bn (call 16 [a0] (x6).snd) fun (x7 : (Res × St)) =>
 (Res.elim (x7).fst (fun (x8 : D) => (bn (extractD x8 0) fun (x9 : D) =>
 (bn (extractD x8 1) fun (x10 : D) =>
 (bn (extractD x8 2) fun (x11 : D) =>
 (bn (allocO [(D.int IntKind.i64 (0 : Int)), (D.int IntKind.i64 (0 : Int)), (D.sl Own.full 0 []), (D.sl Own.full 0 [])] (x7).snd) fun (x12 : (D × St)) =>
 (bn (Option.map (fun (x13 : St) => ((D.tup []), x13)) (storeO Bool.true 4 (x12).fst x9 (x12).snd)) fun (x13 : (D × St)) =>
 (bn (Option.map (fun (x14 : D) => (x14, (x13).snd)) (loadO Bool.true 4 (x5).fst (x13).snd)) fun (x14 : (D × St)) =>
 (bn (Option.map (fun (x15 : D) => (x15, (x14).snd)) (loadO Bool.true 4 (x12).fst (x14).snd)) fun (x15 : (D × St)) =>
 (bn (call 17 [(x14).fst, (x15).fst] (x15).snd) fun (x16 : (Res × St)) =>
 (Res.elim (x16).fst (fun (x17 : D) => (bn (guardB Bool.true x17) fun (x18 : Bool) =>
 (bn (ifb x18 (Option.some x3)
 (Option.some (D.tup []))) fun (x19 : D) =>
 (bn (guardB Bool.true x17) fun (x20 : Bool) =>
 (bn (ifb x20 (Option.some x10)
 (Option.some (D.tup []))) fun (x21 : D) =>
 (bn (guardB Bool.true x17) fun (x22 : Bool) =>
 (bn (ifb x22 (binO BinOp.eql 3 Bool.false x19 x21)
 (Option.some (D.tup []))) fun (x23 : D) =>
 (bn (Option.map (fun (x24 : Bool) => (ifb x24 x23
 (D.bool Bool.false))) (D.bool? x17)) fun (x24 : D) =>
 (bn (guardB Bool.true x24) fun (x25 : Bool) =>
 (bn (ifb x25 (Option.some x4)
 (Option.some (D.tup []))) fun (x26 : D) =>
 (bn (guardB Bool.true x24) fun (x27 : Bool) =>
 (bn (ifb x27 (Option.some x11)
 (Option.some (D.tup []))) fun (x28 : D) =>
 (bn (guardB Bool.true x24) fun (x29 : Bool) =>
 (bn (ifb x29 (binO BinOp.eql 3 Bool.false x26 x28)
 (Option.some (D.tup []))) fun (x30 : D) =>
 (bn (Option.map (fun (x31 : Bool) => (ifb x31 x30
 (D.bool Bool.false))) (D.bool? x24)) fun (x31 : D) =>
 (bn (guardB Bool.true x31) fun (x32 : Bool) =>
 (bn (ifb x32 (call 14 [] (x16).snd)
 (Option.some ((Res.ret (D.tup [])), (x16).snd))) fun (x33 : (Res × St)) =>
 (Res.elim (x33).fst (fun (x34 : D) => (bn (Option.map (fun (x35 : Bool) => (ifb x35 x34
 (D.bool Bool.false))) (D.bool? x31)) fun (x35 : D) =>
 (leaveD RetK.trunc A (Res.ret x35) (x33).snd))) (fun (x34 : D) => (leaveD RetK.trunc A (Res.pan x34) (x33).snd)))))))))))))))))))) (fun (x17 : D) => (leaveD RetK.trunc A (Res.pan x17) (x16).snd)))))))))))) (fun (x8 : D) => (leaveD RetK.trunc A (Res.pan x8) (x7).snd)))))))))) (fun (x1 : D) => (leaveD RetK.trunc A (Res.pan x1) (x0).snd))))
theorem r4 (a0 : D) (A : St) : Run Try.prog codecH 4 [a0] A = f4 (Run Try.prog codecH) (Dcall Try.prog codecH) a0 A := by
  rw [Run_eqK (J := k4)]
  kernel_rfl
noncomputable def f34_s0 (call : (FuncId → ((List D) → (St → ORes)))) (dcall : (D → ((List D) → ((Option D) → (St → (Option ((Option D) × St))))))) (A : St) (e : Env) (Av4 : St) : (Option ((Env × St) ⊕ (Res × St))) :=
  (bn (binO BinOp.lss 3 Bool.false (List.getD (e).t 9 D.any) (List.getD (e).t 8 D.any)) fun (x0 : D) =>
 (bn (D.bool? x0) fun (x1 : Bool) =>
 (ifb x1 (bn (nilCheckD (List.getD (e).t 0 D.any)) fun (x2 : D) =>
 (bn (fieldAddrO 0 x2) fun (x3 : D) =>
 (bn (fieldAddrO 1 x3) fun (x4 : D) =>
 (bn (Option.map (fun (x5 : D) => (x5, Av4)) (loadO Bool.false 1 x4 Av4)) fun (x5 : (D × St)) =>
 (bn (nilCheckD (List.getD (e).t 0 D.any)) fun (x6 : D) =>
 (bn (fieldAddrO 0 x6) fun (x7 : D) =>
 (bn (call 31 [x7, (D.int IntKind.i64 (10 : Int))] (x5).snd) fun (x8 : (Res × St)) =>
 (Res.elim (x8).fst (fun (x9 : D) => (bn (Option.map D.agg (Option.bind (layCells Bool.false 1 0 [(D.sl Own.full 0 []), (D.int IntKind.i64 (0 : Int))] x9) (fun (x10 : (List D)) => (Option.bind (layCells Bool.false 1 1 x10 (x5).fst) (fun (x11 : (List D)) => (Option.some x11)))))) fun (x10 : D) =>
 (bn (Option.map D.agg (Option.bind (layCells Bool.true 2 0 [(D.sl Own.full 0 []), (D.int IntKind.i64 (0 : Int))] x10) (fun (x11 : (List D)) => (Option.some x11)))) fun (x11 : D) =>
 (bn (allocO [(D.sl Own.full 0 []), (D.int IntKind.i64 (0 : Int))] (x8).snd) fun (x12 : (D × St)) =>
 (bn (Option.map (fun (x13 : St) => ((D.tup []), x13)) (storeO Bool.true 2 (x12).fst x11 (x12).snd)) fun (x13 : (D × St)) =>
 (bn (call 28 [(x12).fst, (D.int IntKind.i64 (2 : Int))] (x13).snd) fun (x14 : (Res × St)) =>
 (Res.elim (x14).fst (fun (x15 : D) => (bn (convO (ConvK.int IntKind.i64) x15) fun (x16 : D) =>
 (bn (call 28 [(x12).fst, (D.int IntKind.i64 (8 : Int))] (x14).snd) fun (x17 : (Res × St)) =>
 (Res.elim (x17).fst (fun (x18 : D) => (bn (Option.map D.agg (Option.bind (layCells Bool.false 1 0 [(D.int IntKind.i64 (0 : Int)), (D.int IntKind.u64 (0 : Int))] x16) (fun (x19 : (List D)) => (Option.bind (layCells Bool.false 1 1 x19 x18) (fun (x20 : (List D)) => (Option.some x20)))))) fun (x19 : D) =>
 (bn (allocO [(D.int IntKind.i64 (0 : Int)), (D.int IntKind.u64 (0 : Int))] (x17).snd) fun (x20 : (D × St)) =>
 (bn (Option.map (fun (x21 : St) => ((D.tup []), x21)) (storeO Bool.true 2 (x20).fst x19 (x20).snd)) fun (x21 : (D × St)) =>
 (bn (fieldAddrO 0 (x20).fst) fun (x22 : D) =>
 (bn (Option.map (fun (x23 : (D × St)) => (x23).fst) (Option.map (fun (x23 : D) => (x23, (x21).snd)) (loadO Bool.false 1 x22 (x21).snd))) fun (x23 : D) =>
 (bn (binO BinOp.geq 3 Bool.true x23 (D.int IntKind.i64 (256 : Int))) fun (x24 : D) =>
 (bn (guardB Bool.false x24) fun (x25 : Bool) =>
 (bn (ifb x25 (Option.some (List.getD (e).t 3 D.any))
 (Option.some (D.tup []))) fun (x26 : D) =>
 (bn (guardB Bool.false x24) fun (x27 : Bool) =>
 (bn (ifb x27 (lenSlO x26)
 (Option.some (D.tup []))) fun (x28 : D) =>
 (bn (guardB Bool.false x24) fun (x29 : Bool) =>
 (bn (ifb x29 (binO BinOp.gtr 3 Bool.true x28 (D.int IntKind.i64 (0 : Int)))
 (Option.some (D.tup []))) fun (x30 : D) =>
 (bn (guardB Bool.false x24) fun (x31 : Bool) =>
 (bn (ifb x31 (Option.some x30)
 (Option.some (D.tup []))) fun (x32 : D) =>
 (bn (guardB Bool.true x32) fun (x33 : Bool) =>
 (bn (ifb x33 (Option.some (List.getD (e).t 3 D.any))
 (Option.some (D.tup []))) fun (x34 : D) =>
 (bn (guardB Bool.true x32) fun (x35 : Bool) =>
 (bn (ifb x35 (Option.some (List.getD (e).t 3 D.any))
 (Option.some (D.tup []))) fun (x36 : D) =>
 (bn (guardB Bool.true x32) fun (x37 : Bool) =>
 (bn (ifb x37 (lenSlO x36)
 (Option.some (D.tup []))) fun (x38 : D) =>
 (bn (guardB Bool.true x32) fun (x39 : Bool) =>
 (bn (ifb x39 (binO BinOp.sub 3 Bool.true x38 (D.int IntKind.i64 (1 : Int)))
 (Option.some (D.tup []))) fun (x40 : D) =>
 (bn (guardB Bool.true x32) fun (x41 : Bool) =>
 (bn (ifb x41 (indexAddrO 2 Bool.true x34 x40)
 (Option.some (D.tup []))) fun (x42 : D) =>
 (bn (guardB Bool.true x32) fun (x43 : Bool) =>
 (bn (ifb x43 (fieldAddrO 0 x42)
 (Option.some (D.tup []))) fun (x44 : D) =>
 (bn (guardB Bool.true x32) fun (x45 : Bool) =>
 (bn (ifb x45 (Option.map (fun (x46 : (D × St)) => (x46).fst) (Option.map (fun (x46 : D) => (x46, (x21).snd)) (loadO Bool.false 1 x44 (x21).snd)))
 (Option.some (D.tup []))) fun (x46 : D) =>
 (bn (guardB Bool.true x32) fun (x47 : Bool) =>
 (bn (ifb x47 (fieldAddrO 0 (x20).fst)
 (Option.some (D.tup []))) fun (x48 : D) =>
 (bn (guardB Bool.true x32) fun (x49 : Bool) =>
 (bn (ifb x49 (Option.map (fun (x50 : (D × St)) => (x50).fst) (Option.map (fun (x50 : D) => (x50, (x21).snd)) (loadO Bool.false 1 x48 (x21).snd)))
 (Option.some (D.tup []))) fun (x50 : D) =>
 (bn (guardB Bool.true x32) fun (x51 : Bool) =>
 (bn (ifb x51 (binO BinOp.geq 3 Bool.false x46 x50)
 (Option.some (D.tup []))) fun (x52 : D) =>
 (bn (guardB Bool.false x24) fun (x53 : Bool) =>
 (bn (ifb x53 (Option.map (fun (x54 : Bool) => (ifb x54 x52
 (D.bool Bool.false))) (D.bool? x32))
 (Option.some (D.tup []))) fun (x54 : D) =>
 (bn (Option.map (fun (x55 : Bool) => (ifb x55 (D.bool Bool.true)
 x54)) (D.bool? x24)) fun (x55 : D) =>
 (guardP True (bn (D.bool? x55) fun (x56 : Bool) =>
 (bn (ifb x56 (bn (call 27 [(x5).fst] (x21).snd) fun (x57 : (Res × St)) =>
 (Res.elim (x57).fst (fun (x58 : D) => (Option.some (Sum.inl ((Env.mk [(List.getD (e).t 0 D.any), (List.getD (e).t 1 D.any), (List.getD (e).t 2 D.any), (List.getD (e).t 3 D.any), (x5).fst, (x12).fst, (x20).fst, (List.getD (e).t 7 D.any), (List.getD (e).t 8 D.any), (List.getD (e).t 9 D.any), (D.bool Bool.true), (List.getD (e).t 0 D.any), x2, x3, x4, (x5).fst, (List.getD (e).t 0 D.any), x6, x7, x9, (x5).fst, x10, x11, x15, x16, x18, x19, x22, x23, x24, x24, x26, x28, x30, x32, x34, x36, x38, x40, x42, x44, x46, x48, x50, x52, x54, (D.bool Bool.true), (x5).fst, x58, (List.getD (e).t 49 D.any), (List.getD (e).t 50 D.any), (List.getD (e).t 51 D.any), (List.getD (e).t 52 D.any), (List.getD (e).t 53 D.any), (List.getD (e).t 54 D.any)] (e).df), (x57).snd)))) (fun (x58 : D) => (Option.map (Sum.inr ) (Option.map (Sum.inr ) (bn (leavesD dcall (fun (x59 : St) => (Option.some (List.getD (e).t 2 D.any))) (e).df (Option.some x58) (x57).snd) fun (x59 : (Res × St)) =>
 (leaveD RetK.trunc A (x59).fst (x59).snd)))))))
 (Option.some (Sum.inl ((Env.mk [(List.getD (e).t 0 D.any), (List.getD (e).t 1 D.any), (List.getD (e).t 2 D.any), (List.getD (e).t 3 D.any), (x5).fst, (x12).fst, (x20).fst, (List.getD (e).t 7 D.any), (List.getD (e).t 8 D.any), (List.getD (e).t 9 D.any), (D.bool Bool.true), (List.getD (e).t 0 D.any), x2, x3, x4, (x5).fst, (List.getD (e).t 0 D.any), x6, x7, x9, (x5).fst, x10, x11, x15, x16, x18, x19, x22, x23, x24, x24, x26, x28, x30, x32, x34, x36, x38, x40, x42, x44, x46, x48, x50, x52, x54, (D.bool Bool.false), (List.getD (e).t 47 D.any), (List.getD (e).t 48 D.any), (List.getD (e).t 49 D.any), (List.getD (e).t 50 D.any), (List.getD (e).t 51 D.any), (List.getD (e).t 52 D.any), (List.getD (e).t 53 D.any), (List.getD (e).t 54 D.any)] (e).df), (x21).snd)))) fun (x57 : ((Env × St) ⊕ ((Env × St) ⊕ (Res × St)))) =>
 (Sum.elim (fun (x58 : (Env × St)) => (bn (Option.map (fun (x59 : D) => (x59, (x58).snd)) (loadO Bool.true 2 (List.getD ((x58).fst).t 6 D.any) (x58).snd)) fun (x59 : (D × St)) =>
 (bn (Option.map (fun (x60 : D) => (x60, (x59).snd)) (Option.map (D.sl Own.full 2) (sliceParts 2 Bool.true 0 [(0, (x59).fst)]))) fun (x60 : (D × St)) =>
 (bn (appendO 2 16 (List.getD ((x58).fst).t 3 D.any) (x60).fst (x60).snd) fun (x61 : (D × St)) =>
 (bn (tokO [(0, 2)] (x61).fst (x61).snd) fun (x62 : (D × St)) =>
 (bn (binO BinOp.add 3 Bool.true (List.getD ((x58).fst).t 9 D.any) (D.int IntKind.i64 (1 : Int))) fun (x63 : D) =>
 (guardP (Kept Av4 (x62).snd) (Option.some (Sum.inl ((Env.mk [(D.shut (List.length Av4) (List.getD ((x58).fst).t 0 D.any)), D.any, D.any, (D.shut (List.length Av4) (x62).fst), D.any, D.any, D.any, D.any, (D.shut (List.length Av4) (List.getD ((x58).fst).t 8 D.any)), (D.shut (List.length Av4) x63), D.any, D.any, D.any, D.any, D.any, D.any, D.any, D.any, D.any, D.any, D.any, D.any, D.any, D.any, D.any, D.any, D.any, D.any, D.any, D.any, D.any, D.any, D.any, D.any, D.any, D.any, D.any, D.any, D.any, D.any, D.any, D.any, D.any, D.any, D.any, D.any, D.any, D.any, D.any, D.any, D.any, D.any, D.any, D.any, D.any] (List.map (fun (x64 : (D × (List D))) => ((D.shut (List.length Av4) x64.1), (D.shutL (List.length Av4) x64.2))) ((x58).fst).df)), (List.take (List.length Av4) (x62).snd))))))))))) (fun (x58 : ((Env × St) ⊕ (Res × St))) => (Option.some x58)) x57)))))))))))))))))))))))))))))))))))))))))) (fun (x18 : D) => (Option.map (Sum.inr ) (bn (leavesD dcall (fun (x19 : St) => (Option.some (List.getD (e).t 2 D.any))) (e).df (Option.some x18) (x17).snd) fun (x19 : (Res × St)) =>
 (leaveD RetK.trunc A (x19).fst (x19).snd)))))))) (fun (x15 : D) => (Option.map (Sum.inr ) (bn (leavesD dcall (fun (x16 : St) => (Option.some (List.getD (e).t 2 D.any))) (e).df (Option.some x15) (x14).snd) fun (x16 : (Res × St)) =>
 (leaveD RetK.trunc A (x16).fst (x16).snd))))))))))) (fun (x9 : D) => (Option.map (Sum.inr ) (bn (leavesD dcall (fun (x10 : St) => (Option.some (List.getD (e).t 2 D.any))) (e).df (Option.some x9) (x8).snd) fun (x10 : (Res × St)) =>
 (leaveD RetK.trunc A (x10).fst (x10).snd))))))))))))
 (Option.map (Sum.inr ) (bn (leavesD dcall (fun (x2 : St) => (Option.some (List.getD (e).t 3 D.any))) (e).df none Av4) fun (x2 : (Res × St)) =>
 (leaveD RetK.trunc A (x2).fst (x2).snd))))))
noncomputable def f34 (call : (FuncId → ((List D) → (St → ORes)))) (dcall : (D → ((List D) → ((Option D) → (St → (Option ((Option D) × St))))))) (a0 : D) (A : St) : (Option (Res × St)) :=
  (bn (tokO [(0, 2)] (D.sl Own.full 0 []) A) fun (x0 : (D × St)) =>
 (bn (call 29 [a0, (D.int IntKind.i64 (2 : Int)), (D.int IntKind.u64 (256 : Int))] (x0).snd) fun (x1 : (Res × St)) =>
 (Res.elim (x1).fst (fun (x2 : D) => (iterK (f34_s0 call dcall A) (Env.mk [a0, D.any, D.any, (x0).fst, D.any, D.any, D.any, D.any, x2, (D.int IntKind.i64 (0 : Int)), D.any, D.any, D.any, D.any, D.any, D.any, D.any, D.any, D.any, D.any, D.any, D.any, D.any, D.any, D.any, D.any, D.any, D.any, D.any, D.any, D.any, D.any, D.any, D.any, D.any, D.any, D.any, D.any, D.any, D.any, D.any, D.any, D.any, D.any, D.any, D.any, D.any, D.any, D.any, D.any, D.any, D.any, D.any, D.any, D.any] []) (x1).snd)) (fun (x2 : D) => (leaveD RetK.trunc A (Res.pan x2) (x1).snd)))))
theorem r34 (a0 : D) (A : St) : Run Try.prog codecH 34 [a0] A = f34 (Run Try.prog codecH) (Dcall Try.prog codecH) a0 A := by
  rw [Run_eqK (J := k34)]
  kernel_rfl
noncomputable def f35_s0 (call : (FuncId → ((List D) → (St → ORes)))) (dcall : (D → ((List D) → ((Option D) → (St → (Option ((Option D) × St))))))) (A : St) (e : Env) (Av4 : St) : (Option ((Env × St) ⊕ (Res × St))) :=
  (bn (binO BinOp.lss 3 Bool.false (List.getD (e).t 9 D.any) (List.getD (e).t 8 D.any)) fun (x0 : D) =>
 (bn (D.bool? x0) fun (x1 : Bool) =>
 (ifb x1 (bn (nilCheckD (List.getD (e).t 0 D.any)) fun (x2 : D) =>
 (bn (fieldAddrO 0 x2) fun (x3 : D) =>
 (bn (fieldAddrO 1 x3) fun (x4 : D) =>
 (bn (Option.map (fun (x5 : D) => (x5, Av4)) (loadO Bool.false 1 x4 Av4)) fun (x5 : (D × St)) =>
 (bn (call 28 [(List.getD (e).t 0 D.any), (D.int IntKind.i64 (8 : Int))] (x5).snd) fun (x6 : (Res × St)) =>
 (Res.elim (x6).fst (fun (x7 : D) => (bn (Option.map D.agg (Option.bind (layCells Bool.false 1 0 [(D.int IntKind.u64 (0 : Int)), (D.sl Own.full 0 [])] x7) (fun (x8 : (List D)) => (Option.some x8)))) fun (x8 : D) =>
 (bn (allocO [(D.int IntKind.u64 (0 : Int)), (D.sl Own.full 0 [])] (x6).snd) fun (x9 : (D × St)) =>
 (bn (Option.map (fun (x10 : St) => ((D.tup []), x10)) (storeO Bool.true 2 (x9).fst x8 (x9).snd)) fun (x10 : (D × St)) =>
 (bn (fieldAddrO 0 (x9).fst) fun (x11 : D) =>
 (bn (Option.map (fun (x12 : D) => (x12, (x10).snd)) (loadO Bool.false 1 x11 (x10).snd)) fun (x12 : (D × St)) =>
 (bn (binO BinOp.eql 3 Bool.true (x12).fst (D.int IntKind.u64 (0 : Int))) fun (x13 : D) =>
 (bn (D.bool? x13) fun (x14 : Bool) =>
 (bn (ifb x14 (bn (call 27 [(x5).fst] (x12).snd) fun (x15 : (Res × St)) =>
 (Res.elim (x15).fst (fun (x16 : D) => (Option.some (Sum.inl ((Env.mk [(List.getD (e).t 0 D.any), (List.getD (e).t 1 D.any), (List.getD (e).t 2 D.any), (List.getD (e).t 3 D.any), (x5).fst, (x9).fst, (List.getD (e).t 6 D.any), (List.getD (e).t 7 D.any), (List.getD (e).t 8 D.any), (List.getD (e).t 9 D.any), (D.bool Bool.true), (List.getD (e).t 0 D.any), x2, x3, x4, (x5).fst, (List.getD (e).t 0 D.any), x7, x8, x11, (x12).fst, (D.bool Bool.true), (x5).fst, x16, (List.getD (e).t 24 D.any), (List.getD (e).t 25 D.any), (List.getD (e).t 26 D.any), (List.getD (e).t 27 D.any), (List.getD (e).t 28 D.any), (List.getD (e).t 29 D.any), (List.getD (e).t 30 D.any), (List.getD (e).t 31 D.any), (List.getD (e).t 32 D.any), (List.getD (e).t 33 D.any), (List.getD (e).t 34 D.any), (List.getD (e).t 35 D.any), (List.getD (e).t 36 D.any), (List.getD (e).t 37 D.any), (List.getD (e).t 38 D.any), (List.getD (e).t 39 D.any), (List.getD (e).t 40 D.any), (List.getD (e).t 41 D.any), (List.getD (e).t 42 D.any), (List.getD (e).t 43 D.any), (List.getD (e).t 44 D.any), (List.getD (e).t 45 D.any), (List.getD (e).t 46 D.any), (List.getD (e).t 47 D.any), (List.getD (e).t 48 D.any), (List.getD (e).t 49 D.any), (List.getD (e).t 50 D.any), (List.getD (e).t 51 D.any), (List.getD (e).t 52 D.any), (List.getD (e).t 53 D.any), (List.getD (e).t 54 D.any), (List.getD (e).t 55 D.any), (List.getD (e).t 56 D.any), (List.getD (e).t 57 D.any)] (e).df), (x15).snd)))) (fun (x16 : D) => (Option.map (Sum.inr ) (Option.map (Sum.inr ) (bn (leavesD dcall (fun (x17 : St) => (Option.some (List.getD (e).t 2 D.any))) (e).df (Option.some x16) (x15).snd) fun (x17 : (Res × St)) =>
 (leaveD RetK.trunc A (x17).fst (x17).snd)))))))
 (Option.some (Sum.inl ((Env.mk [(List.getD (e).t 0 D.any), (List.getD (e).t 1 D.any), (List.getD (e).t 2 D.any), (List.getD (e).t 3 D.any), (x5).fst, (x9).fst, (List.getD (e).t 6 D.any), (List.getD (e).t 7 D.any), (List.getD (e).t 8 D.any), (List.getD (e).t 9 D.any), (D.bool Bool.true), (List.getD (e).t 0 D.any), x2, x3, x4, (x5).fst, (List.getD (e).t 0 D.any), x7, x8, x11, (x12).fst, (D.bool Bool.false), (List.getD (e).t 22 D.any), (List.getD (e).t 23 D.any), (List.getD (e).t 24 D.any), (List.getD (e).t 25 D.any), (List.getD (e).t 26 D.any), (List.getD (e).t 27 D.any), (List.getD (e).t 28 D.any), (List.getD (e).t 29 D.any), (List.getD (e).t 30 D.any), (List.getD (e).t 31 D.any), (List.getD (e).t 32 D.any), (List.getD (e).t 33 D.any), (List.getD (e).t 34 D.any), (List.getD (e).t 35 D.any), (List.getD (e).t 36 D.any), (List.getD (e).t 37 D.any), (List.getD (e).t 38 D.any), (List.getD (e).t 39 D.any), (List.getD (e).t 40 D.any), (List.getD (e).t 41 D.any), (List.getD (e).t 42 D.any), (List.getD (e).t 43 D.any), (List.getD (e).t 44 D.any), (List.getD (e).t 45 D.any), (List.getD (e).t 46 D.any), (List.getD (e).t 47 D.any), (List.getD (e).t 48 D.any), (List.getD (e).t 49 D.any), (List.getD (e).t 50 D.any), (List.getD (e).t 51 D.any), (List.getD (e).t 52 D.any), (List.getD (e).t 53 D.any), (List.getD (e).t 54 D.any), (List.getD (e).t 55 D.any), (List.getD (e).t 56 D.any), (List.getD (e).t 57 D.any)] (e).df), (x12).snd)))) fun (x15 : ((Env × St) ⊕ ((Env × St) ⊕ (Res × St)))) =>
 (Sum.elim (fun (x16 : (Env × St)) => (bn (nilCheckD (List.getD ((x16).fst).t 0 D.any)) fun (x17 : D) =>
 (bn (fieldAddrO 0 x17) fun (x18 : D) =>
 (bn (fieldAddrO 1 x18) fun (x19 : D) =>
 (bn (Option.map (fun (x20 : D) => (x20, (x16).snd)) (loadO Bool.false 1 x19 (x16).snd)) fun (x20 : (D × St)) =>
 (bn (call 29 [(List.getD ((x16).fst).t 0 D.any), (D.int IntKind.i64 (4 : Int)), (D.int IntKind.u64 (1048576 : Int))] (x20).snd) fun (x21 : (Res × St)) =>
 (Res.elim (x21).fst (fun (x22 : D) => (bn (binO BinOp.eql 3 Bool.true x22 (D.int IntKind.i64 (0 : Int))) fun (x23 : D) =>
 (bn (guardB Bool.false x23) fun (x24 : Bool) =>
 (bn (ifb x24 (Option.some x22)
 (Option.some (D.tup []))) fun (x25 : D) =>
 (bn (guardB Bool.false x23) fun (x26 : Bool) =>
 (bn (ifb x26 (Option.some (List.getD ((x16).fst).t 0 D.any))
 (Option.some (D.tup []))) fun (x27 : D) =>
 (bn (guardB Bool.false x23) fun (x28 : Bool) =>
 (bn (ifb x28 (nilCheckD x27)
 (Option.some (D.tup []))) fun (x29 : D) =>
 (bn (guardB Bool.false x23) fun (x30 : Bool) =>
 (bn (ifb x30 (fieldAddrO 0 x29)
 (Option.some (D.tup []))) fun (x31 : D) =>
 (bn (guardB Bool.false x23) fun (x32 : Bool) =>
 (bn (ifb x32 (fieldAddrO 0 x31)
 (Option.some (D.tup []))) fun (x33 : D) =>
 (bn (guardB Bool.false x23) fun (x34 : Bool) =>
 (bn (ifb x34 (Option.map (fun (x35 : D) => (x35, (x21).snd)) (loadO Bool.false 1 x33 (x21).snd))
 (Option.some ((D.tup []), (x21).snd))) fun (x35 : (D × St)) =>
 (bn (guardB Bool.false x23) fun (x36 : Bool) =>
 (bn (ifb x36 (lenSlO (x35).fst)
 (Option.some (D.tup []))) fun (x37 : D) =>
 (bn (guardB Bool.false x23) fun (x38 : Bool) =>
 (bn (ifb x38 (binO BinOp.gtr 3 Bool.false x25 x37)
 (Option.some (D.tup []))) fun (x39 : D) =>
 (bn (Option.map (fun (x40 : Bool) => (ifb x40 (D.bool Bool.true)
 x39)) (D.bool? x23)) fun (x40 : D) =>
 (bn (D.bool? x40) fun (x41 : Bool) =>
 (bn (ifb x41 (bn (call 27 [(x20).fst] (x35).snd) fun (x42 : (Res × St)) =>
 (Res.elim (x42).fst (fun (x43 : D) => (Option.some (Sum.inl ((Env.mk [(List.getD ((x16).fst).t 0 D.any), (List.getD ((x16).fst).t 1 D.any), (List.getD ((x16).fst).t 2 D.any), (List.getD ((x16).fst).t 3 D.any), (x20).fst, (List.getD ((x16).fst).t 5 D.any), x22, (List.getD ((x16).fst).t 7 D.any), (List.getD ((x16).fst).t 8 D.any), (List.getD ((x16).fst).t 9 D.any), (List.getD ((x16).fst).t 10 D.any), (List.getD ((x16).fst).t 11 D.any), (List.getD ((x16).fst).t 12 D.any), (List.getD ((x16).fst).t 13 D.any), (List.getD ((x16).fst).t 14 D.any), (List.getD ((x16).fst).t 15 D.any), (List.getD ((x16).fst).t 16 D.any), (List.getD ((x16).fst).t 17 D.any), (List.getD ((x16).fst).t 18 D.any), (List.getD ((x16).fst).t 19 D.any), (List.getD ((x16).fst).t 20 D.any), (List.getD ((x16).fst).t 21 D.any), (List.getD ((x16).fst).t 22 D.any), (List.getD ((x16).fst).t 23 D.any), (List.getD ((x16).fst).t 0 D.any), x17, x18, x19, (x20).fst, (List.getD ((x16).fst).t 0 D.any), x22, x22, x23, x23, x25, x27, x29, x31, x33, (x35).fst, x37, x39, (D.bool Bool.true), (x20).fst, x43, (List.getD ((x16).fst).t 45 D.any), (List.getD ((x16).fst).t 46 D.any), (List.getD ((x16).fst).t 47 D.any), (List.getD ((x16).fst).t 48 D.any), (List.getD ((x16).fst).t 49 D.any), (List.getD ((x16).fst).t 50 D.any), (List.getD ((x16).fst).t 51 D.any), (List.getD ((x16).fst).t 52 D.any), (List.getD ((x16).fst).t 53 D.any), (List.getD ((x16).fst).t 54 D.any), (List.getD ((x16).fst).t 55 D.any), (List.getD ((x16).fst).t 56 D.any), (List.getD ((x16).fst).t 57 D.any)] ((x16).fst).df), (x42).snd)))) (fun (x43 : D) => (Option.map (Sum.inr ) (Option.map (Sum.inr ) (bn (leavesD dcall (fun (x44 : St) => (Option.some (List.getD ((x16).fst).t 2 D.any))) ((x16).fst).df (Option.some x43) (x42).snd) fun (x44 : (Res × St)) =>
 (leaveD RetK.trunc A (x44).fst (x44).snd)))))))
 (Option.some (Sum.inl ((Env.mk [(List.getD ((x16).fst).t 0 D.any), (List.getD ((x16).fst).t 1 D.any), (List.getD ((x16).fst).t 2 D.any), (List.getD ((x16).fst).t 3 D.any), (x20).fst, (List.getD ((x16).fst).t 5 D.any), x22, (List.getD ((x16).fst).t 7 D.any), (List.getD ((x16).fst).t 8 D.any), (List.getD ((x16).fst).t 9 D.any), (List.getD ((x16).fst).t 10 D.any), (List.getD ((x16).fst).t 11 D.any), (List.getD ((x16).fst).t 12 D.any), (List.getD ((x16).fst).t 13 D.any), (List.getD ((x16).fst).t 14 D.any), (List.getD ((x16).fst).t 15 D.any), (List.getD ((x16).fst).t 16 D.any), (List.getD ((x16).fst).t 17 D.any), (List.getD ((x16).fst).t 18 D.any), (List.getD ((x16).fst).t 19 D.any), (List.getD ((x16).fst).t 20 D.any), (List.getD ((x16).fst).t 21 D.any), (List.getD ((x16).fst).t 22 D.any), (List.getD ((x16).fst).t 23 D.any), (List.getD ((x16).fst).t 0 D.any), x17, x18, x19, (x20).fst, (List.getD ((x16).fst).t 0 D.any), x22, x22, x23, x23, x25, x27, x29, x31, x33, (x35).fst, x37, x39, (D.bool Bool.false), (List.getD ((x16).fst).t 43 D.any), (List.getD ((x16).fst).t 44 D.any), (List.getD ((x16).fst).t 45 D.any), (List.getD ((x16).fst).t 46 D.any), (List.getD ((x16).fst).t 47 D.any), (List.getD ((x16).fst).t 48 D.any), (List.getD ((x16).fst).t 49 D.any), (List.getD ((x16).fst).t 50 D.any), (List.getD ((x16).fst).t 51 D.any), (List.getD ((x16).fst).t 52 D.any), (List.getD ((x16).fst).t 53 D.any), (List.getD ((x16).fst).t 54 D.any), (List.getD ((x16).fst).t 55 D.any), (List.getD ((x16).fst).t 56 D.any), (List.getD ((x16).fst).t 57 D.any)] ((x16).fst).df), (x35).snd)))) fun (x42 : ((Env × St) ⊕ ((Env × St) ⊕ (Res × St)))) =>
 (Sum.elim (fun (x43 : (Env × St)) => (bn (nilCheckD (List.getD ((x43).fst).t 0 D.any)) fun (x44 : D) =>
 (bn (fieldAddrO 0 x44) fun (x45 : D) =>
 (bn (call 31 [x45, (List.getD ((x43).fst).t 6 D.any)] (x43).snd) fun (x46 : (Res × St)) =>
 (Res.elim (x46).fst (fun (x47 : D) => (bn (call 30 [x47] (x46).snd) fun (x48 : (Res × St)) =>
 (Res.elim (x48).fst (fun (x49 : D) => (bn (fieldAddrO 1 (List.getD ((x43).fst).t 5 D.any)) fun (x50 : D) =>
 (bn (Option.map (fun (x51 : St) => ((D.tup []), x51)) (storeO Bool.false 1 x50 x49 (x48).snd)) fun (x51 : (D × St)) =>
 (bn (Option.map (fun (x52 : D) => (x52, (x51).snd)) (loadO Bool.true 2 (List.getD ((x43).fst).t 5 D.any) (x51).snd)) fun (x52 : (D × St)) =>
 (bn (Option.map (fun (x53 : D) => (x53, (x52).snd)) (Option.map (D.sl Own.full 2) (sliceParts 2 Bool.true 0 [(0, (x52).fst)]))) fun (x53 : (D × St)) =>
 (bn (appendO 2 32 (List.getD ((x43).fst).t 3 D.any) (x53).fst (x53).snd) fun (x54 : (D × St)) =>
 (bn (tokO [(0, 2)] (x54).fst (x54).snd) fun (x55 : (D × St)) =>
 (bn (binO BinOp.add 3 Bool.true (List.getD ((x43).fst).t 9 D.any) (D.int IntKind.i64 (1 : Int))) fun (x56 : D) =>
 (guardP (Kept Av4 (x55).snd) (Option.some (Sum.inl ((Env.mk [(D.shut (List.length Av4) (List.getD ((x43).fst).t 0 D.any)), D.any, D.any, (D.shut (List.length Av4) (x55).fst), D.any, D.any, D.any, D.any, (D.shut (List.length Av4) (List.getD ((x43).fst).t 8 D.any)), (D.shut (List.length Av4) x56), D.any, D.any, D.any, D.any, D.any, D.any, D.any, D.any, D.any, D.any, D.any, D.any, D.any, D.any, D.any, D.any, D.any, D.any, D.any, D.any, D.any, D.any, D.any, D.any, D.any, D.any, D.any, D.any, D.any, D.any, D.any, D.any, D.any, D.any, D.any, D.any, D.any, D.any, D.any, D.any, D.any, D.any, D.any, D.any, D.any, D.any, D.any, D.any] (List.map (fun (x57 : (D × (List D))) => ((D.shut (List.length Av4) x57.1), (D.shutL (List.length Av4) x57.2))) ((x43).fst).df)), (List.take (List.length Av4) (x55).snd))))))))))))) (fun (x49 : D) => (Option.map (Sum.inr ) (bn (leavesD dcall (fun (x50 : St) => (Option.some (List.getD ((x43).fst).t 2 D.any))) ((x43).fst).df (Option.some x49) (x48).snd) fun (x50 : (Res × St)) =>
 (leaveD RetK.trunc A (x50).fst (x50).snd))))))) (fun (x47 : D) => (Option.map (Sum.inr ) (bn (leavesD dcall (fun (x48 : St) => (Option.some (List.getD ((x43).fst).t 2 D.any))) ((x43).fst).df (Option.some x47) (x46).snd) fun (x48 : (Res × St)) =>
 (leaveD RetK.trunc A (x48).fst (x48).snd))))))))) (fun (x43 : ((Env × St) ⊕ (Res × St))) => (Option.some x43)) x42)))))))))))))))))))))) (fun (x22 : D) => (Option.map (Sum.inr ) (bn (leavesD dcall (fun (x23 : St) => (Option.some (List.getD ((x16).fst).t 2 D.any))) ((x16).fst).df (Option.some x22) (x21).snd) fun (x23 : (Res × St)) =>
 (leaveD RetK.trunc A (x23).fst (x23).snd))))))))))) (fun (x16 : ((Env × St) ⊕ (Res × St))) => (Option.some x16)) x15)))))))))) (fun (x7 : D) => (Option.map (Sum.inr ) (bn (leavesD dcall (fun (x8 : St) => (Option.some (List.getD (e).t 2 D.any))) (e).df (Option.some x7) (x6).snd) fun (x8 : (Res × St)) =>
 (leaveD RetK.trunc A (x8).fst (x8).snd))))))))))
 (Option.map (Sum.inr ) (bn (leavesD dcall (fun (x2 : St) => (Option.some (List.getD (e).t 3 D.any))) (e).df none Av4) fun (x2 : (Res × St)) =>
 (leaveD RetK.trunc A (x2).fst (x2).snd))))))
noncomputable def f35 (call : (FuncId → ((List D) → (St → ORes)))) (dcall : (D → ((List D) → ((Option D) → (St → (Option ((Option D) × St))))))) (a0 : D) (A : St) : (Option (Res × St)) :=
  (bn (tokO [(0, 2)] (D.sl Own.full 0 []) A) fun (x0 : (D × St)) =>
 (bn (call 29 [a0, (D.int IntKind.i64 (2 : Int)), (D.int IntKind.u64 (256 : Int))] (x0).snd) fun (x1 : (Res × St)) =>
 (Res.elim (x1).fst (fun (x2 : D) => (iterK (f35_s0 call dcall A) (Env.mk [a0, D.any, D.any, (x0).fst, D.any, D.any, D.any, D.any, x2, (D.int IntKind.i64 (0 : Int)), D.any, D.any, D.any, D.any, D.any, D.any, D.any, D.any, D.any, D.any, D.any, D.any, D.any, D.any, D.any, D.any, D.any, D.any, D.any, D.any, D.any, D.any, D.any, D.any, D.any, D.any, D.any, D.any, D.any, D.any, D.any, D.any, D.any, D.any, D.any, D.any, D.any, D.any, D.any, D.any, D.any, D.any, D.any, D.any, D.any, D.any, D.any, D.any] []) (x1).snd)) (fun (x2 : D) => (leaveD RetK.trunc A (Res.pan x2) (x1).snd)))))
theorem r35 (a0 : D) (A : St) : Run Try.prog codecH 35 [a0] A = f35 (Run Try.prog codecH) (Dcall Try.prog codecH) a0 A := by
  rw [Run_eqK (J := k35)]
  kernel_rfl
noncomputable def f36 (call : (FuncId → ((List D) → (St → ORes)))) (dcall : (D → ((List D) → ((Option D) → (St → (Option ((Option D) × St))))))) (a0 : D) (a1 : D) (a2 : D) (a3 : D) (A : St) : (Option (Res × St)) :=
  (bn (nilCheckD a0) fun (x0 : D) =>
 (bn (fieldAddrO 2 x0) fun (x1 : D) =>
 (bn (Option.map (fun (x2 : (D × St)) => (x2).fst) (Option.map (fun (x2 : D) => (x2, A)) (loadO Bool.false 1 x1 A))) fun (x2 : D) =>
 (bn (guardB Bool.false x2) fun (x3 : Bool) =>
 (bn (ifb x3 (Option.some a0)
 (Option.some (D.tup []))) fun (x4 : D) =>
 (bn (guardB Bool.false x2) fun (x5 : Bool) =>
 (bn (ifb x5 (nilCheckD x4)
 (Option.some (D.tup []))) fun (x6 : D) =>
 (bn (guardB Bool.false x2) fun (x7 : Bool) =>
 (bn (ifb x7 (fieldAddrO 0 x6)
 (Option.some (D.tup []))) fun (x8 : D) =>
 (bn (guardB Bool.false x2) fun (x9 : Bool) =>
 (bn (ifb x9 (Option.map (fun (x10 : (D × St)) => (x10).fst) (Option.map (fun (x10 : D) => (x10, A)) (loadO Bool.false 1 x8 A)))
 (Option.some (D.tup []))) fun (x10 : D) =>
 (bn (guardB Bool.false x2) fun (x11 : Bool) =>
 (bn (ifb x11 (lenSlO x10)
 (Option.some (D.tup []))) fun (x12 : D) =>
 (bn (guardB Bool.false x2) fun (x13 : Bool) =>
 (bn (ifb x13 (Option.some a0)
 (Option.some (D.tup []))) fun (x14 : D) =>
 (bn (guardB Bool.false x2) fun (x15 : Bool) =>
 (bn (ifb x15 (nilCheckD x14)
 (Option.some (D.tup []))) fun (x16 : D) =>
 (bn (guardB Bool.false x2) fun (x17 : Bool) =>
 (bn (ifb x17 (fieldAddrO 1 x16)
 (Option.some (D.tup []))) fun (x18 : D) =>
 (bn (guardB Bool.false x2) fun (x19 : Bool) =>
 (bn (ifb x19 (Option.map (fun (x20 : (D × St)) => (x20).fst) (Option.map (fun (x20 : D) => (x20, A)) (loadO Bool.false 1 x18 A)))
 (Option.some (D.tup []))) fun (x20 : D) =>
 (bn (guardB Bool.false x2) fun (x21 : Bool) =>
 (bn (ifb x21 (binO BinOp.sub 3 Bool.false x12 x20)
 (Option.some (D.tup []))) fun (x22 : D) =>
 (bn (guardB Bool.false x2) fun (x23 : Bool) =>
 (bn (ifb x23 (Option.some a1)
 (Option.some (D.tup []))) fun (x24 : D) =>
 (bn (guardB Bool.false x2) fun (x25 : Bool) =>
 (bn (ifb x25 (binO BinOp.lss 3 Bool.false x22 x24)
 (Option.some (D.tup []))) fun (x26 : D) =>
 (bn (Option.map (fun (x27 : Bool) => (ifb x27 (D.bool Bool.true)
 x26)) (D.bool? x2)) fun (x27 : D) =>
 (guardP True (bn (D.bool? x27) fun (x28 : Bool) =>
 (ifb x28 (bn (nilCheckD a0) fun (x29 : D) =>
 (bn (fieldAddrO 2 x29) fun (x30 : D) =>
 (bn (Option.map (fun (x31 : St) => ((D.tup []), x31)) (storeO Bool.false 1 x30 (D.bool Bool.true) A)) fun (x31 : (D × St)) =>
 (leaveD RetK.trunc A (Res.ret (D.int IntKind.u64 (0 : Int))) (x31).snd))))
 (bn (nilCheckD a0) fun (x29 : D) =>
 (bn (fieldAddrO 0 x29) fun (x30 : D) =>
 (bn (Option.map (fun (x31 : (D × St)) => (x31).fst) (Option.map (fun (x31 : D) => (x31, A)) (loadO Bool.false 1 x30 A))) fun (x31 : D) =>
 (bn (nilCheckD a0) fun (x32 : D) =>
 (bn (fieldAddrO 1 x32) fun (x33 : D) =>
 (bn (Option.map (fun (x34 : (D × St)) => (x34).fst) (Option.map (fun (x34 : D) => (x34, A)) (loadO Bool.false 1 x33 A))) fun (x34 : D) =>
 (bn (call 32 [x31, x34, a1] A) fun (x35 : (Res × St)) =>
 (Res.elim (x35).fst (fun (x36 : D) => (guardP True (bn (binO BinOp.lss 3 Bool.false x36 a2) fun (x37 : D) =>
 (bn (guardB Bool.false x37) fun (x38 : Bool) =>
 (bn (ifb x38 (Option.some x36)
 (Option.some (D.tup []))) fun (x39 : D) =>
 (bn (guardB Bool.false x37) fun (x40 : Bool) =>
 (bn (ifb x40 (Option.some a3)
 (Option.some (D.tup []))) fun (x41 : D) =>
 (bn (guardB Bool.false x37) fun (x42 : Bool) =>
 (bn (ifb x42 (binO BinOp.gtr 3 Bool.false x39 x41)
 (Option.some (D.tup []))) fun (x43 : D) =>
 (bn (Option.map (fun (x44 : Bool) => (ifb x44 (D.bool Bool.true)
 x43)) (D.bool? x37)) fun (x44 : D) =>
 (bn (D.bool? x44) fun (x45 : Bool) =>
 (ifb x45 (bn (nilCheckD a0) fun (x46 : D) =>
 (bn (fieldAddrO 2 x46) fun (x47 : D) =>
 (bn (Option.map (fun (x48 : St) => ((D.tup []), x48)) (storeO Bool.false 1 x47 (D.bool Bool.true) (x35).snd)) fun (x48 : (D × St)) =>
 (leaveD RetK.trunc A (Res.ret (D.int IntKind.u64 (0 : Int))) (x48).snd))))
 (bn (nilCheckD a0) fun (x46 : D) =>
 (bn (fieldAddrO 1 x46) fun (x47 : D) =>
 (bn (Option.map (fun (x48 : D) => (x48, (x35).snd)) (loadO Bool.false 1 x47 (x35).snd)) fun (x48 : (D × St)) =>
 (bn (binO BinOp.add 3 Bool.false (x48).fst a1) fun (x49 : D) =>
 (bn (nilCheckD a0) fun (x50 : D) =>
 (bn (fieldAddrO 1 x50) fun (x51 : D) =>
 (bn (Option.map (fun (x52 : St) => ((D.tup []), x52)) (storeO Bool.false 1 x51 x49 (x48).snd)) fun (x52 : (D × St)) =>
 (leaveD RetK.trunc A (Res.ret x36) (x52).snd)))))))))))))))))))) (fun (x36 : D) => (guardP True (leaveD RetK.trunc A (Res.pan x36) (x35).snd))))))))))))))))))))))))))))))))))))))))))
theorem r36 (a0 a1 a2 a3 : D) (A : St) : Run Try.prog codecH 36 [a0, a1, a2, a3] A = f36 (Run Try.prog codecH) (Dcall Try.prog codecH) a0 a1 a2 a3 A := by
  rw [Run_eqK (J := k36)]
  kernel_rfl
noncomputable def f37 (call : (FuncId → ((List D) → (St → ORes)))) (dcall : (D → ((List D) → ((Option D) → (St → (Option ((Option D) × St))))))) (a0 : D) (a1 : D) (A : St) : (Option (Res × St)) :=
  (bn (allocO [(D.int IntKind.i64 (0 : Int)), (D.int IntKind.u64 (0 : Int))] A) fun (x0 : (D × St)) =>
 (bn (nilCheckD a0) fun (x1 : D) =>
 (bn (fieldAddrO 2 x1) fun (x2 : D) =>
 (bn (Option.map (fun (x3 : (D × St)) => (x3).fst) (Option.map (fun (x3 : D) => (x3, (x0).snd)) (loadO Bool.false 1 x2 (x0).snd))) fun (x3 : D) =>
 (bn (guardB Bool.false x3) fun (x4 : Bool) =>
 (bn (ifb x4 (Option.some a0)
 (Option.some (D.tup []))) fun (x5 : D) =>
 (bn (guardB Bool.false x3) fun (x6 : Bool) =>
 (bn (ifb x6 (nilCheckD x5)
 (Option.some (D.tup []))) fun (x7 : D) =>
 (bn (guardB Bool.false x3) fun (x8 : Bool) =>
 (bn (ifb x8 (fieldAddrO 0 x7)
 (Option.some (D.tup []))) fun (x9 : D) =>
 (bn (guardB Bool.false x3) fun (x10 : Bool) =>
 (bn (ifb x10 (Option.map (fun (x11 : (D × St)) => (x11).fst) (Option.map (fun (x11 : D) => (x11, (x0).snd)) (loadO Bool.false 1 x9 (x0).snd)))
 (Option.some (D.tup []))) fun (x11 : D) =>
 (bn (guardB Bool.false x3) fun (x12 : Bool) =>
 (bn (ifb x12 (lenSlO x11)
 (Option.some (D.tup []))) fun (x13 : D) =>
 (bn (guardB Bool.false x3) fun (x14 : Bool) =>
 (bn (ifb x14 (Option.some a0)
 (Option.some (D.tup []))) fun (x15 : D) =>
 (bn (guardB Bool.false x3) fun (x16 : Bool) =>
 (bn (ifb x16 (nilCheckD x15)
 (Option.some (D.tup []))) fun (x17 : D) =>
 (bn (guardB Bool.false x3) fun (x18 : Bool) =>
 (bn (ifb x18 (fieldAddrO 1 x17)
 (Option.some (D.tup []))) fun (x19 : D) =>
 (bn (guardB Bool.false x3) fun (x20 : Bool) =>
 (bn (ifb x20 (Option.map (fun (x21 : (D × St)) => (x21).fst) (Option.map (fun (x21 : D) => (x21, (x0).snd)) (loadO Bool.false 1 x19 (x0).snd)))
 (Option.some (D.tup []))) fun (x21 : D) =>
 (bn (guardB Bool.false x3) fun (x22 : Bool) =>
 (bn (ifb x22 (binO BinOp.sub 3 Bool.false x13 x21)
 (Option.some (D.tup []))) fun (x23 : D) =>
 (bn (guardB Bool.false x3) fun (x24 : Bool) =>
 (bn (ifb x24 (binO BinOp.lss 3 Bool.true x23 (D.int IntKind.i64 (10 : Int)))
 (Option.some (D.tup []))) fun (x25 : D) =>
 (bn (Option.map (fun (x26 : Bool) => (ifb x26 (D.bool Bool.true)
 x25)) (D.bool? x3)) fun (x26 : D) =>
 (guardP True (bn (D.bool? x26) fun (x27 : Bool) =>
 (ifb x27 (bn (nilCheckD a0) fun (x28 : D) =>
 (bn (fieldAddrO 2 x28) fun (x29 : D) =>
 (bn (Option.map (fun (x30 : St) => ((D.tup []), x30)) (storeO Bool.false 1 x29 (D.bool Bool.true) (x0).snd)) fun (x30 : (D × St)) =>
 (bn (Option.map (fun (x31 : St) => ((D.tup []), x31)) (storeO Bool.true 2 (x0).fst (D.agg [(D.int IntKind.i64 (0 : Int)), (D.int IntKind.u64 (0 : Int))]) (x30).snd)) fun (x31 : (D × St)) =>
 (bn (Option.map (fun (x32 : D) => ((Res.ret x32), (x31).snd)) (Option.map packD (Option.bind (loadO Bool.true 2 (x0).fst (x31).snd) (fun (x32 : D) => (Option.some [x32]))))) fun (x32 : (Res × St)) =>
 (leaveD RetK.trunc A (x32).fst (x32).snd))))))
 (bn (nilCheckD a0) fun (x28 : D) =>
 (bn (fieldAddrO 0 x28) fun (x29 : D) =>
 (bn (Option.map (fun (x30 : (D × St)) => (x30).fst) (Option.map (fun (x30 : D) => (x30, ((x0).snd ++ [(Slot.cells [(D.int IntKind.i64 (0 : Int)), (D.int IntKind.u64 (0 : Int))])]))) (loadO Bool.false 1 x29 ((x0).snd ++ [(Slot.cells [(D.int IntKind.i64 (0 : Int)), (D.int IntKind.u64 (0 : Int))])])))) fun (x30 : D) =>
 (bn (nilCheckD a0) fun (x31 : D) =>
 (bn (fieldAddrO 1 x31) fun (x32 : D) =>
 (bn (Option.map (fun (x33 : (D × St)) => (x33).fst) (Option.map (fun (x33 : D) => (x33, ((x0).snd ++ [(Slot.cells [(D.int IntKind.i64 (0 : Int)), (D.int IntKind.u64 (0 : Int))])]))) (loadO Bool.false 1 x32 ((x0).snd ++ [(Slot.cells [(D.int IntKind.i64 (0 : Int)), (D.int IntKind.u64 (0 : Int))])])))) fun (x33 : D) =>
 (bn (call 32 [x30, x33, (D.int IntKind.i64 (2 : Int))] ((x0).snd ++ [(Slot.cells [(D.int IntKind.i64 (0 : Int)), (D.int IntKind.u64 (0 : Int))])])) fun (x34 : (Res × St)) =>
 (Res.elim (x34).fst (fun (x35 : D) => (bn (convO (ConvK.int IntKind.i64) x35) fun (x36 : D) =>
 (bn (nilCheckD a0) fun (x37 : D) =>
 (bn (fieldAddrO 0 x37) fun (x38 : D) =>
 (bn (Option.map (fun (x39 : (D × St)) => (x39).fst) (Option.map (fun (x39 : D) => (x39, (x34).snd)) (loadO Bool.false 1 x38 (x34).snd))) fun (x39 : D) =>
 (bn (nilCheckD a0) fun (x40 : D) =>
 (bn (fieldAddrO 1 x40) fun (x41 : D) =>
 (bn (Option.map (fun (x42 : (D × St)) => (x42).fst) (Option.map (fun (x42 : D) => (x42, (x34).snd)) (loadO Bool.false 1 x41 (x34).snd))) fun (x42 : D) =>
 (bn (binO BinOp.add 3 Bool.true x42 (D.int IntKind.i64 (2 : Int))) fun (x43 : D) =>
 (bn (call 32 [x39, x43, (D.int IntKind.i64 (8 : Int))] (x34).snd) fun (x44 : (Res × St)) =>
 (Res.elim (x44).fst (fun (x45 : D) => (bn (Option.map D.agg (Option.bind (layCells Bool.false 1 0 [(D.int IntKind.i64 (0 : Int)), (D.int IntKind.u64 (0 : Int))] x36) (fun (x46 : (List D)) => (Option.bind (layCells Bool.false 1 1 x46 x45) (fun (x47 : (List D)) => (Option.some x47)))))) fun (x46 : D) =>
 (bn (waitO [(D.int IntKind.i64 (0 : Int)), (D.int IntKind.u64 (0 : Int))] (List.length (x0).snd) (x44).snd) fun (x47 : D) =>
 (bn (Option.map (fun (x48 : St) => ((D.tup []), x48)) (storeO Bool.true 2 x47 x46 (x44).snd)) fun (x48 : (D × St)) =>
 (guardP ((sameAd x38 ((x0).snd ++ [(Slot.cells [(D.int IntKind.i64 (0 : Int)), (D.int IntKind.u64 (0 : Int))])]) (x34).snd) ∧ ((sameAd x41 ((x0).snd ++ [(Slot.cells [(D.int IntKind.i64 (0 : Int)), (D.int IntKind.u64 (0 : Int))])]) (x34).snd) ∧ (((((x0).snd ++ [(Slot.cells [(D.int IntKind.i64 (0 : Int)), (D.int IntKind.u64 (0 : Int))])]))[(List.length (x0).snd)]? = ((x34).snd)[(List.length (x0).snd)]?) ∧ ((((x34).snd)[(List.length (x0).snd)]? = ((x44).snd)[(List.length (x0).snd)]?) ∧ True)))) (bn (fieldAddrO 0 x47) fun (x49 : D) =>
 (bn (Option.map (fun (x50 : D) => (x50, (x48).snd)) (loadO Bool.false 1 x49 (x48).snd)) fun (x50 : (D × St)) =>
 (bn (binO BinOp.leq 3 Bool.false (x50).fst a1) fun (x51 : D) =>
 (bn (guardB Bool.false x51) fun (x52 : Bool) =>
 (bn (ifb x52 (fieldAddrO 0 x47)
 (Option.some (D.tup []))) fun (x53 : D) =>
 (bn (guardB Bool.false x51) fun (x54 : Bool) =>
 (bn (ifb x54 (Option.map (fun (x55 : D) => (x55, (x50).snd)) (loadO Bool.false 1 x53 (x50).snd))
 (Option.some ((D.tup []), (x50).snd))) fun (x55 : (D × St)) =>
 (bn (guardB Bool.false x51) fun (x56 : Bool) =>
 (bn (ifb x56 (binO BinOp.geq 3 Bool.true (x55).fst (D.int IntKind.i64 (256 : Int)))
 (Option.some (D.tup []))) fun (x57 : D) =>
 (bn (Option.map (fun (x58 : Bool) => (ifb x58 (D.bool Bool.true)
 x57)) (D.bool? x51)) fun (x58 : D) =>
 (bn (D.bool? x58) fun (x59 : Bool) =>
 (ifb x59 (bn (nilCheckD a0) fun (x60 : D) =>
 (bn (fieldAddrO 2 x60) fun (x61 : D) =>
 (bn (Option.map (fun (x62 : St) => ((D.tup []), x62)) (storeO Bool.false 1 x61 (D.bool Bool.true) (x55).snd)) fun (x62 : (D × St)) =>
 (bn (Option.map (fun (x63 : St) => ((D.tup []), x63)) (storeO Bool.true 2 (x0).fst (D.agg [(D.int IntKind.i64 (0 : Int)), (D.int IntKind.u64 (0 : Int))]) (x62).snd)) fun (x63 : (D × St)) =>
 (bn (Option.map (fun (x64 : D) => ((Res.ret x64), (x63).snd)) (Option.map packD (Option.bind (loadO Bool.true 2 (x0).fst (x63).snd) (fun (x64 : D) => (Option.some [x64]))))) fun (x64 : (Res × St)) =>
 (leaveD RetK.trunc A (x64).fst (x64).snd))))))
 (bn (nilCheckD a0) fun (x60 : D) =>
 (bn (fieldAddrO 1 x60) fun (x61 : D) =>
 (bn (Option.map (fun (x62 : D) => (x62, (x55).snd)) (loadO Bool.false 1 x61 (x55).snd)) fun (x62 : (D × St)) =>
 (bn (binO BinOp.add 3 Bool.true (x62).fst (D.int IntKind.i64 (10 : Int))) fun (x63 : D) =>
 (bn (nilCheckD a0) fun (x64 : D) =>
 (bn (fieldAddrO 1 x64) fun (x65 : D) =>
 (bn (Option.map (fun (x66 : St) => ((D.tup []), x66)) (storeO Bool.false 1 x65 x63 (x62).snd)) fun (x66 : (D × St)) =>
 (bn (Option.map (fun (x67 : D) => (x67, (x66).snd)) (loadO Bool.true 2 x47 (x66).snd)) fun (x67 : (D × St)) =>
 (bn (Option.map (fun (x68 : St) => ((D.tup []), x68)) (storeO Bool.true 2 (x0).fst (x67).fst (x67).snd)) fun (x68 : (D × St)) =>
 (bn (Option.map (fun (x69 : D) => ((Res.ret x69), (x68).snd)) (Option.map packD (Option.bind (loadO Bool.true 2 (x0).fst (x68).snd) (fun (x69 : D) => (Option.some [x69]))))) fun (x69 : (Res × St)) =>
 (leaveD RetK.trunc A (x69).fst (x69).snd)))))))))))))))))))))))))))) (fun (x45 : D) => none)))))))))))) (fun (x35 : D) => none)))))))))))))))))))))))))))))))))))))))
theorem r37 (a0 a1 : D) (A : St) : Run Try.prog codecH 37 [a0, a1] A = f37 (Run Try.prog codecH) (Dcall Try.prog codecH) a0 a1 A := by
  rw [Run_eqK (J := k37)]
  kernel_rfl
noncomputable def f38_s0 (call : (FuncId → ((List D) → (St → ORes)))) (dcall : (D → ((List D) → ((Option D) → (St → (Option ((Option D) × St))))))) (A : St) (e : Env) (Av4 : St) : (Option ((Env × St) ⊕ (Res × St))) :=
  (bn (lenSlO (List.getD (e).t 0 D.any)) fun (x0 : D) =>
 (bn (binO BinOp.lss 3 Bool.false (List.getD (e).t 5 D.any) x0) fun (x1 : D) =>
 (bn (D.bool? x1) fun (x2 : Bool) =>
 (ifb x2 (bn (indexAddrO 2 Bool.true (List.getD (e).t 0 D.any) (List.getD (e).t 5 D.any)) fun (x3 : D) =>
 (bn (Option.map (fun (x4 : (D × St)) => (x4).fst) (Option.map (fun (x4 : D) => (x4, Av4)) (loadO Bool.true 2 x3 Av4))) fun (x4 : D) =>
 (bn (indexAddrO 2 Bool.true (List.getD (e).t 1 D.any) (List.getD (e).t 5 D.any)) fun (x5 : D) =>
 (bn (Option.map (fun (x6 : (D × St)) => (x6).fst) (Option.map (fun (x6 : D) => (x6, Av4)) (loadO Bool.true 2 x5 Av4))) fun (x6 : D) =>
 (bn (binO BinOp.neq 102 Bool.false x4 x6) fun (x7 : D) =>
 (guardP True (bn (D.bool? x7) fun (x8 : Bool) =>
 (ifb x8 (Option.map (Sum.inr ) (bn (leavesD dcall (fun (x9 : St) => (Option.some (D.bool Bool.false))) (e).df none Av4) fun (x9 : (Res × St)) =>
 (leaveD RetK.trunc A (x9).fst (x9).snd)))
 (bn (binO BinOp.add 3 Bool.true (List.getD (e).t 5 D.any) (D.int IntKind.i64 (1 : Int))) fun (x9 : D) =>
 (guardP (Kept Av4 Av4) (Option.some (Sum.inl ((Env.mk [(D.shut (List.length Av4) (List.getD (e).t 0 D.any)), (D.shut (List.length Av4) (List.getD (e).t 1 D.any)), D.any, D.any, D.any, (D.shut (List.length Av4) x9), D.any, D.any, D.any, D.any, D.any, D.any, D.any, D.any, D.any, D.any, D.any, D.any, D.any, D.any, D.any, D.any, D.any, D.any, D.any, D.any] (List.map (fun (x10 : (D × (List D))) => ((D.shut (List.length Av4) x10.1), (D.shutL (List.length Av4) x10.2))) (e).df)), (List.take (List.length Av4) Av4))))))))))))))
 (Option.map (Sum.inr ) (bn (leavesD dcall (fun (x3 : St) => (Option.some (D.bool Bool.true))) (e).df none Av4) fun (x3 : (Res × St)) =>
 (leaveD RetK.trunc A (x3).fst (x3).snd)))))))
noncomputable def f38 (call : (FuncId → ((List D) → (St → ORes)))) (dcall : (D → ((List D) → ((Option D) → (St → (Option ((Option D) × St))))))) (a0 : D) (a1 : D) (A : St) : (Option (Res × St)) :=
  (bn (lenSlO a0) fun (x0 : D) =>
 (bn (lenSlO a1) fun (x1 : D) =>
 (bn (binO BinOp.neq 3 Bool.false x0 x1) fun (x2 : D) =>
 (bn (D.bool? x2) fun (x3 : Bool) =>
 (ifb x3 (leaveD RetK.trunc A (Res.ret (D.bool Bool.false)) A)
 (iterK (f38_s0 call dcall A) (Env.mk [a0, a1, D.any, D.any, D.any, (D.int IntKind.i64 (0 : Int)), D.any, D.any, D.any, D.any, D.any, D.any, D.any, D.any, D.any, D.any, D.any, D.any, D.any, D.any, D.any, D.any, D.any, D.any, D.any, D.any] []) A))))))
theorem r38 (a0 a1 : D) (A : St) : Run Try.prog codecH 38 [a0, a1] A = f38 (Run Try.prog codecH) (Dcall Try.prog codecH) a0 a1 A := by
  rw [Run_eqK (J := k38)]
  kernel_rfl
end Go.Vm.Codec
