/- Written by a program: what the abstract run of each function comes to, one definition a function, and its equation. -/
import Derived.Test.YtkhcbemdcehkdaaCodecH
import Derived.KernelRfl
set_option linter.all false
namespace Go.Vm.Codec
open Go.Proofs
set_option maxRecDepth 100000
set_option linter.unusedVariables false
set_option maxHeartbeats 0
noncomputable def f7 (call : (FuncId → ((List D) → (St → ORes)))) (dcall : (D → ((List D) → ((Option D) → (St → (Option ((Option D) × St))))))) (a0 : D) (a1 : D) (A : St) : (Option (Res × St)) :=
  (bn (boxO Bool.true a0 A) fun (x0 : (D × St)) =>
 (bn (boxO Bool.true a1 (x0).snd) fun (x1 : (D × St)) =>
 (bn (call 14 [] (x1).snd) fun (x2 : (Res × St)) =>
 (Res.elim (x2).fst (fun (x3 : D) => (bn (unD UnOp.not x3) fun (x4 : D) =>
 (bn (D.bool? x4) fun (x5 : Bool) =>
 (ifb x5 (leaveD RetK.trunc A (Res.ret (D.bool Bool.false)) (x2).snd)
 (bn (Option.map (fun (x6 : D) => (x6, (x2).snd)) (loadO Bool.true 6 (x0).fst (x2).snd)) fun (x6 : (D × St)) =>
 (bn (call 9 [(x6).fst] (x6).snd) fun (x7 : (Res × St)) =>
 (Res.elim (x7).fst (fun (x8 : D) => (bn (extractD x8 0) fun (x9 : D) =>
 (bn (extractD x8 1) fun (x10 : D) =>
 (bn (Option.map (fun (x11 : D) => (x11, (x7).snd)) (loadO Bool.true 4 (x1).fst (x7).snd)) fun (x11 : (D × St)) =>
 (bn (call 18 [(x11).fst] (x11).snd) fun (x12 : (Res × St)) =>
 (Res.elim (x12).fst (fun (x13 : D) => (bn (extractD x13 0) fun (x14 : D) =>
 (bn (extractD x13 1) fun (x15 : D) =>
 (bn (binO BinOp.eql 3 Bool.true x10 (D.int IntKind.i64 (0 : Int))) fun (x16 : D) =>
 (bn (D.bool? x16) fun (x17 : Bool) =>
 (bn (ifb x17 (bn (call 11 [x9] (x12).snd) fun (x18 : (Res × St)) =>
 (Res.elim (x18).fst (fun (x19 : D) => (bn (extractD x19 0) fun (x20 : D) =>
 (bn (extractD x19 1) fun (x21 : D) =>
 (bn (extractD x19 2) fun (x22 : D) =>
 (bn (allocO [(D.int IntKind.u8 (0 : Int)), (D.int IntKind.u32 (0 : Int)), (D.int IntKind.u32 (0 : Int)), (D.int IntKind.u64 (0 : Int)), (D.int IntKind.u64 (0 : Int)), (D.sl Own.full 0 [])] (x18).snd) fun (x23 : (D × St)) =>
 (bn (Option.map (fun (x24 : St) => ((D.tup []), x24)) (storeO Bool.true 6 (x23).fst x20 (x23).snd)) fun (x24 : (D × St)) =>
 (bn (binO BinOp.neq 3 Bool.true x22 (D.int IntKind.i64 (0 : Int))) fun (x25 : D) =>
 (bn (guardB Bool.false x25) fun (x26 : Bool) =>
 (bn (ifb x26 (Option.some x21)
 (Option.some (D.tup []))) fun (x27 : D) =>
 (bn (guardB Bool.false x25) fun (x28 : Bool) =>
 (bn (ifb x28 (binO BinOp.neq 3 Bool.true x27 (D.int IntKind.i64 (0 : Int)))
 (Option.some (D.tup []))) fun (x29 : D) =>
 (bn (Option.map (fun (x30 : Bool) => (ifb x30 (D.bool Bool.true)
 x29)) (D.bool? x25)) fun (x30 : D) =>
 (bn (guardB Bool.false x30) fun (x31 : Bool) =>
 (bn (ifb x31 (Option.map (fun (x32 : D) => (x32, (x24).snd)) (loadO Bool.true 6 (x23).fst (x24).snd))
 (Option.some ((D.tup []), (x24).snd))) fun (x32 : (D × St)) =>
 (bn (guardB Bool.false x30) fun (x33 : Bool) =>
 (bn (ifb x33 (Option.map (fun (x34 : D) => (x34, (x32).snd)) (loadO Bool.true 6 (x0).fst (x32).snd))
 (Option.some ((D.tup []), (x32).snd))) fun (x34 : (D × St)) =>
 (bn (guardB Bool.false x30) fun (x35 : Bool) =>
 (bn (ifb x35 (call 13 [(x32).fst, (x34).fst] (x34).snd)
 (Option.some ((Res.ret (D.tup [])), (x34).snd))) fun (x36 : (Res × St)) =>
 (Res.elim (x36).fst (fun (x37 : D) => (bn (guardB Bool.false x30) fun (x38 : Bool) =>
 (bn (ifb x38 (unD UnOp.not x37)
 (Option.some (D.tup []))) fun (x39 : D) =>
 (bn (Option.map (fun (x40 : Bool) => (ifb x40 (D.bool Bool.true)
 x39)) (D.bool? x30)) fun (x40 : D) =>
 (bn (D.bool? x40) fun (x41 : Bool) =>
 (ifb x41 (Option.map (Sum.inr ) (leaveD RetK.trunc A (Res.ret (D.bool Bool.false)) (x36).snd))
 (Option.some (Sum.inl ((Env.mk [a0, a1, (x0).fst, (x1).fst, (D.bool Bool.false), x9, x10, x14, x15, (x23).fst, x21, x22, (D.tup []), (D.tup []), (D.tup []), x3, (D.bool Bool.false), x8, (x6).fst, x8, x9, x10, x13, (x11).fst, x13, x14, x15, x10, (D.bool Bool.true), x19, x9, x19, x20, x21, x22, x22, x25, x25, x27, x29, x30, x30, (x32).fst, (x34).fst, x37, x39, (D.bool Bool.false), (D.tup []), (D.tup []), (D.tup []), (D.tup []), (D.tup []), (D.tup []), (D.tup []), (D.tup []), (D.tup []), (D.tup []), (D.tup []), (D.tup []), (D.tup []), (D.tup []), (D.tup []), (D.tup []), (D.tup []), (D.tup []), (D.tup []), (D.tup []), (D.tup []), (D.tup []), (D.tup []), (D.tup []), (D.tup []), (D.tup []), (D.tup []), (D.tup []), (D.tup []), (D.tup []), (D.tup []), (D.tup []), (D.tup []), (D.tup []), (D.tup []), (D.tup [])] []), (x36).snd))))))))) (fun (x37 : D) => (Option.map (Sum.inr ) (leaveD RetK.trunc A (Res.pan x37) (x36).snd)))))))))))))))))))))) (fun (x19 : D) => (Option.map (Sum.inr ) (leaveD RetK.trunc A (Res.pan x19) (x18).snd)))))
 (Option.some (Sum.inl ((Env.mk [a0, a1, (x0).fst, (x1).fst, (D.bool Bool.false), x9, x10, x14, x15, (D.tup []), (D.tup []), (D.tup []), (D.tup []), (D.tup []), (D.tup []), x3, (D.bool Bool.false), x8, (x6).fst, x8, x9, x10, x13, (x11).fst, x13, x14, x15, x10, (D.bool Bool.false), (D.tup []), (D.tup []), (D.tup []), (D.tup []), (D.tup []), (D.tup []), (D.tup []), (D.tup []), (D.tup []), (D.tup []), (D.tup []), (D.tup []), (D.tup []), (D.tup []), (D.tup []), (D.tup []), (D.tup []), (D.tup []), (D.tup []), (D.tup []), (D.tup []), (D.tup []), (D.tup []), (D.tup []), (D.tup []), (D.tup []), (D.tup []), (D.tup []), (D.tup []), (D.tup []), (D.tup []), (D.tup []), (D.tup []), (D.tup []), (D.tup []), (D.tup []), (D.tup []), (D.tup []), (D.tup []), (D.tup []), (D.tup []), (D.tup []), (D.tup []), (D.tup []), (D.tup []), (D.tup []), (D.tup []), (D.tup []), (D.tup []), (D.tup []), (D.tup []), (D.tup []), (D.tup []), (D.tup [])] []), (x12).snd)))) fun (x18 : ((Env × St) ⊕ (Res × St))) =>
 (Sum.elim (fun (x19 : (Env × St)) => (bn (binO BinOp.eql 3 Bool.true (List.getD ((x19).fst).t 8 D.any) (D.int IntKind.i64 (0 : Int))) fun (x20 : D) =>
 (bn (D.bool? x20) fun (x21 : Bool) =>
 (bn (ifb x21 (bn (call 15 [(List.getD ((x19).fst).t 7 D.any)] (x19).snd) fun (x22 : (Res × St)) =>
 (Res.elim (x22).fst (fun (x23 : D) => (bn (extractD x23 0) fun (x24 : D) =>
 (bn (extractD x23 1) fun (x25 : D) =>
 (bn (extractD x23 2) fun (x26 : D) =>
 (bn (allocO [(D.int IntKind.i64 (0 : Int)), (D.int IntKind.i64 (0 : Int)), (D.sl Own.full 0 []), (D.sl Own.full 0 [])] (x22).snd) fun (x27 : (D × St)) =>
 (bn (Option.map (fun (x28 : St) => ((D.tup []), x28)) (storeO Bool.true 4 (x27).fst x24 (x27).snd)) fun (x28 : (D × St)) =>
 (bn (binO BinOp.neq 3 Bool.true x26 (D.int IntKind.i64 (0 : Int))) fun (x29 : D) =>
 (bn (guardB Bool.false x29) fun (x30 : Bool) =>
 (bn (ifb x30 (Option.some x25)
 (Option.some (D.tup []))) fun (x31 : D) =>
 (bn (guardB Bool.false x29) fun (x32 : Bool) =>
 (bn (ifb x32 (binO BinOp.neq 3 Bool.true x31 (D.int IntKind.i64 (0 : Int)))
 (Option.some (D.tup []))) fun (x33 : D) =>
 (bn (Option.map (fun (x34 : Bool) => (ifb x34 (D.bool Bool.true)
 x33)) (D.bool? x29)) fun (x34 : D) =>
 (bn (guardB Bool.false x34) fun (x35 : Bool) =>
 (bn (ifb x35 (Option.map (fun (x36 : D) => (x36, (x28).snd)) (loadO Bool.true 4 (x27).fst (x28).snd))
 (Option.some ((D.tup []), (x28).snd))) fun (x36 : (D × St)) =>
 (bn (guardB Bool.false x34) fun (x37 : Bool) =>
 (bn (ifb x37 (Option.map (fun (x38 : D) => (x38, (x36).snd)) (loadO Bool.true 4 (List.getD ((x19).fst).t 3 D.any) (x36).snd))
 (Option.some ((D.tup []), (x36).snd))) fun (x38 : (D × St)) =>
 (bn (guardB Bool.false x34) fun (x39 : Bool) =>
 (bn (ifb x39 (call 17 [(x36).fst, (x38).fst] (x38).snd)
 (Option.some ((Res.ret (D.tup [])), (x38).snd))) fun (x40 : (Res × St)) =>
 (Res.elim (x40).fst (fun (x41 : D) => (bn (guardB Bool.false x34) fun (x42 : Bool) =>
 (bn (ifb x42 (unD UnOp.not x41)
 (Option.some (D.tup []))) fun (x43 : D) =>
 (bn (Option.map (fun (x44 : Bool) => (ifb x44 (D.bool Bool.true)
 x43)) (D.bool? x34)) fun (x44 : D) =>
 (bn (D.bool? x44) fun (x45 : Bool) =>
 (ifb x45 (Option.map (Sum.inr ) (bn (leavesD dcall (fun (x46 : St) => (Option.some (D.bool Bool.false))) ((x19).fst).df none (x40).snd) fun (x46 : (Res × St)) =>
 (leaveD RetK.trunc A (x46).fst (x46).snd)))
 (Option.some (Sum.inl ((Env.mk [(List.getD ((x19).fst).t 0 D.any), (List.getD ((x19).fst).t 1 D.any), (List.getD ((x19).fst).t 2 D.any), (List.getD ((x19).fst).t 3 D.any), (List.getD ((x19).fst).t 4 D.any), (List.getD ((x19).fst).t 5 D.any), (List.getD ((x19).fst).t 6 D.any), (List.getD ((x19).fst).t 7 D.any), (List.getD ((x19).fst).t 8 D.any), (List.getD ((x19).fst).t 9 D.any), (List.getD ((x19).fst).t 10 D.any), (List.getD ((x19).fst).t 11 D.any), (x27).fst, x25, x26, (List.getD ((x19).fst).t 15 D.any), (List.getD ((x19).fst).t 16 D.any), (List.getD ((x19).fst).t 17 D.any), (List.getD ((x19).fst).t 18 D.any), (List.getD ((x19).fst).t 19 D.any), (List.getD ((x19).fst).t 20 D.any), (List.getD ((x19).fst).t 21 D.any), (List.getD ((x19).fst).t 22 D.any), (List.getD ((x19).fst).t 23 D.any), (List.getD ((x19).fst).t 24 D.any), (List.getD ((x19).fst).t 25 D.any), (List.getD ((x19).fst).t 26 D.any), (List.getD ((x19).fst).t 27 D.any), (List.getD ((x19).fst).t 28 D.any), (List.getD ((x19).fst).t 29 D.any), (List.getD ((x19).fst).t 30 D.any), (List.getD ((x19).fst).t 31 D.any), (List.getD ((x19).fst).t 32 D.any), (List.getD ((x19).fst).t 33 D.any), (List.getD ((x19).fst).t 34 D.any), (List.getD ((x19).fst).t 35 D.any), (List.getD ((x19).fst).t 36 D.any), (List.getD ((x19).fst).t 37 D.any), (List.getD ((x19).fst).t 38 D.any), (List.getD ((x19).fst).t 39 D.any), (List.getD ((x19).fst).t 40 D.any), (List.getD ((x19).fst).t 41 D.any), (List.getD ((x19).fst).t 42 D.any), (List.getD ((x19).fst).t 43 D.any), (List.getD ((x19).fst).t 44 D.any), (List.getD ((x19).fst).t 45 D.any), (List.getD ((x19).fst).t 46 D.any), (List.getD ((x19).fst).t 8 D.any), (D.bool Bool.true), x23, (List.getD ((x19).fst).t 7 D.any), x23, x24, x25, x26, x26, x29, x29, x31, x33, x34, x34, (x36).fst, (x38).fst, x41, x43, (D.bool Bool.false), (List.getD ((x19).fst).t 67 D.any), (List.getD ((x19).fst).t 68 D.any), (List.getD ((x19).fst).t 69 D.any), (List.getD ((x19).fst).t 70 D.any), (List.getD ((x19).fst).t 71 D.any), (List.getD ((x19).fst).t 72 D.any), (List.getD ((x19).fst).t 73 D.any), (List.getD ((x19).fst).t 74 D.any), (List.getD ((x19).fst).t 75 D.any), (List.getD ((x19).fst).t 76 D.any), (List.getD ((x19).fst).t 77 D.any), (List.getD ((x19).fst).t 78 D.any), (List.getD ((x19).fst).t 79 D.any), (List.getD ((x19).fst).t 80 D.any), (List.getD ((x19).fst).t 81 D.any), (List.getD ((x19).fst).t 82 D.any)] ((x19).fst).df), (x40).snd))))))))) (fun (x41 : D) => (Option.map (Sum.inr ) (bn (leavesD dcall (fun (x42 : St) => (Option.some (List.getD ((x19).fst).t 4 D.any))) ((x19).fst).df (Option.some x41) (x40).snd) fun (x42 : (Res × St)) =>
 (leaveD RetK.trunc A (x42).fst (x42).snd))))))))))))))))))))))) (fun (x23 : D) => (Option.map (Sum.inr ) (bn (leavesD dcall (fun (x24 : St) => (Option.some (List.getD ((x19).fst).t 4 D.any))) ((x19).fst).df (Option.some x23) (x22).snd) fun (x24 : (Res × St)) =>
 (leaveD RetK.trunc A (x24).fst (x24).snd))))))
 (Option.some (Sum.inl ((Env.mk [(List.getD ((x19).fst).t 0 D.any), (List.getD ((x19).fst).t 1 D.any), (List.getD ((x19).fst).t 2 D.any), (List.getD ((x19).fst).t 3 D.any), (List.getD ((x19).fst).t 4 D.any), (List.getD ((x19).fst).t 5 D.any), (List.getD ((x19).fst).t 6 D.any), (List.getD ((x19).fst).t 7 D.any), (List.getD ((x19).fst).t 8 D.any), (List.getD ((x19).fst).t 9 D.any), (List.getD ((x19).fst).t 10 D.any), (List.getD ((x19).fst).t 11 D.any), (List.getD ((x19).fst).t 12 D.any), (List.getD ((x19).fst).t 13 D.any), (List.getD ((x19).fst).t 14 D.any), (List.getD ((x19).fst).t 15 D.any), (List.getD ((x19).fst).t 16 D.any), (List.getD ((x19).fst).t 17 D.any), (List.getD ((x19).fst).t 18 D.any), (List.getD ((x19).fst).t 19 D.any), (List.getD ((x19).fst).t 20 D.any), (List.getD ((x19).fst).t 21 D.any), (List.getD ((x19).fst).t 22 D.any), (List.getD ((x19).fst).t 23 D.any), (List.getD ((x19).fst).t 24 D.any), (List.getD ((x19).fst).t 25 D.any), (List.getD ((x19).fst).t 26 D.any), (List.getD ((x19).fst).t 27 D.any), (List.getD ((x19).fst).t 28 D.any), (List.getD ((x19).fst).t 29 D.any), (List.getD ((x19).fst).t 30 D.any), (List.getD ((x19).fst).t 31 D.any), (List.getD ((x19).fst).t 32 D.any), (List.getD ((x19).fst).t 33 D.any), (List.getD ((x19).fst).t 34 D.any), (List.getD ((x19).fst).t 35 D.any), (List.getD ((x19).fst).t 36 D.any), (List.getD ((x19).fst).t 37 D.any), (List.getD ((x19).fst).t 38 D.any), (List.getD ((x19).fst).t 39 D.any), (List.getD ((x19).fst).t 40 D.any), (List.getD ((x19).fst).t 41 D.any), (List.getD ((x19).fst).t 42 D.any), (List.getD ((x19).fst).t 43 D.any), (List.getD ((x19).fst).t 44 D.any), (List.getD ((x19).fst).t 45 D.any), (List.getD ((x19).fst).t 46 D.any), (List.getD ((x19).fst).t 8 D.any), (D.bool Bool.false), (List.getD ((x19).fst).t 49 D.any), (List.getD ((x19).fst).t 50 D.any), (List.getD ((x19).fst).t 51 D.any), (List.getD ((x19).fst).t 52 D.any), (List.getD ((x19).fst).t 53 D.any), (List.getD ((x19).fst).t 54 D.any), (List.getD ((x19).fst).t 55 D.any), (List.getD ((x19).fst).t 56 D.any), (List.getD ((x19).fst).t 57 D.any), (List.getD ((x19).fst).t 58 D.any), (List.getD ((x19).fst).t 59 D.any), (List.getD ((x19).fst).t 60 D.any), (List.getD ((x19).fst).t 61 D.any), (List.getD ((x19).fst).t 62 D.any), (List.getD ((x19).fst).t 63 D.any), (List.getD ((x19).fst).t 64 D.any), (List.getD ((x19).fst).t 65 D.any), (List.getD ((x19).fst).t 66 D.any), (List.getD ((x19).fst).t 67 D.any), (List.getD ((x19).fst).t 68 D.any), (List.getD ((x19).fst).t 69 D.any), (List.getD ((x19).fst).t 70 D.any), (List.getD ((x19).fst).t 71 D.any), (List.getD ((x19).fst).t 72 D.any), (List.getD ((x19).fst).t 73 D.any), (List.getD ((x19).fst).t 74 D.any), (List.getD ((x19).fst).t 75 D.any), (List.getD ((x19).fst).t 76 D.any), (List.getD ((x19).fst).t 77 D.any), (List.getD ((x19).fst).t 78 D.any), (List.getD ((x19).fst).t 79 D.any), (List.getD ((x19).fst).t 80 D.any), (List.getD ((x19).fst).t 81 D.any), (List.getD ((x19).fst).t 82 D.any)] ((x19).fst).df), (x19).snd)))) fun (x22 : ((Env × St) ⊕ (Res × St))) =>
 (Sum.elim (fun (x23 : (Env × St)) => (bn (binO BinOp.eql 3 Bool.true (List.getD ((x23).fst).t 6 D.any) (D.int IntKind.i64 (0 : Int))) fun (x24 : D) =>
 (bn (guardB Bool.false x24) fun (x25 : Bool) =>
 (bn (ifb x25 (Option.some (List.getD ((x23).fst).t 5 D.any))
 (Option.some (D.tup []))) fun (x26 : D) =>
 (bn (guardB Bool.false x24) fun (x27 : Bool) =>
 (bn (ifb x27 (lenSlO x26)
 (Option.some (D.tup []))) fun (x28 : D) =>
 (bn (guardB Bool.false x24) fun (x29 : Bool) =>
 (bn (ifb x29 (binO BinOp.eql 3 Bool.true x28 (D.int IntKind.i64 (0 : Int)))
 (Option.some (D.tup []))) fun (x30 : D) =>
 (bn (Option.map (fun (x31 : Bool) => (ifb x31 (D.bool Bool.true)
 x30)) (D.bool? x24)) fun (x31 : D) =>
 (bn (guardB Bool.true x31) fun (x32 : Bool) =>
 (bn (ifb x32 (Option.some (List.getD ((x23).fst).t 8 D.any))
 (Option.some (D.tup []))) fun (x33 : D) =>
 (bn (guardB Bool.true x31) fun (x34 : Bool) =>
 (bn (ifb x34 (binO BinOp.eql 3 Bool.true x33 (D.int IntKind.i64 (0 : Int)))
 (Option.some (D.tup []))) fun (x35 : D) =>
 (bn (guardB Bool.true x31) fun (x36 : Bool) =>
 (bn (ifb x36 (Option.some x35)
 (Option.some (D.tup []))) fun (x37 : D) =>
 (bn (guardB Bool.false x37) fun (x38 : Bool) =>
 (bn (ifb x38 (Option.some (List.getD ((x23).fst).t 7 D.any))
 (Option.some (D.tup []))) fun (x39 : D) =>
 (bn (guardB Bool.false x37) fun (x40 : Bool) =>
 (bn (ifb x40 (lenSlO x39)
 (Option.some (D.tup []))) fun (x41 : D) =>
 (bn (guardB Bool.false x37) fun (x42 : Bool) =>
 (bn (ifb x42 (binO BinOp.eql 3 Bool.true x41 (D.int IntKind.i64 (0 : Int)))
 (Option.some (D.tup []))) fun (x43 : D) =>
 (bn (guardB Bool.true x31) fun (x44 : Bool) =>
 (bn (ifb x44 (Option.map (fun (x45 : Bool) => (ifb x45 (D.bool Bool.true)
 x43)) (D.bool? x37))
 (Option.some (D.tup []))) fun (x45 : D) =>
 (bn (Option.map (fun (x46 : Bool) => (ifb x46 x45
 (D.bool Bool.false))) (D.bool? x31)) fun (x46 : D) =>
 (bn (leavesD dcall (fun (x47 : St) => (Option.some x46)) ((x23).fst).df none (x23).snd) fun (x47 : (Res × St)) =>
 (leaveD RetK.trunc A (x47).fst (x47).snd)))))))))))))))))))))))))) (fun (x23 : (Res × St)) => (Option.some x23)) x22))))) (fun (x19 : (Res × St)) => (Option.some x19)) x18))))))) (fun (x13 : D) => (leaveD RetK.trunc A (Res.pan x13) (x12).snd)))))))) (fun (x8 : D) => (leaveD RetK.trunc A (Res.pan x8) (x7).snd))))))))) (fun (x3 : D) => (leaveD RetK.trunc A (Res.pan x3) (x2).snd))))))
theorem r7 (a0 a1 : D) (A : St) : Run Try.prog codecH 7 [a0, a1] A = f7 (Run Try.prog codecH) (Dcall Try.prog codecH) a0 a1 A := by
  rw [Run_eqK (J := k7)]
  kernel_rfl
end Go.Vm.Codec
