/- Written by a program: what the abstract run of each function comes to, one definition a function, and its equation. -/
import Derived.Test.YtkhcbemdcehkdaaCodecH
import Derived.KernelRfl
set_option linter.all false
namespace Go.Vm.Codec
open Go.Proofs
set_option maxRecDepth 100000
set_option linter.unusedVariables false
set_option maxHeartbeats 0
noncomputable def f8 (call : (FuncId → ((List D) → (St → ORes)))) (dcall : (D → ((List D) → ((Option D) → (St → (Option ((Option D) × St))))))) (a0 : D) (a1 : D) (a2 : D) (A : St) : (Option (Res × St)) :=
  (bn (call 14 [] A) fun (x0 : (Res × St)) =>
 (Res.elim (x0).fst (fun (x1 : D) => (bn (unD UnOp.not x1) fun (x2 : D) =>
 (bn (D.bool? x2) fun (x3 : Bool) =>
 (ifb x3 (leaveD RetK.trunc A (Res.ret (D.bool Bool.false)) (x0).snd)
 (bn (call 11 [a0] (x0).snd) fun (x4 : (Res × St)) =>
 (Res.elim (x4).fst (fun (x5 : D) => (bn (extractD x5 0) fun (x6 : D) =>
 (bn (extractD x5 1) fun (x7 : D) =>
 (bn (extractD x5 2) fun (x8 : D) =>
 (bn (allocO [(D.int IntKind.u8 (0 : Int)), (D.int IntKind.u32 (0 : Int)), (D.int IntKind.u32 (0 : Int)), (D.int IntKind.u64 (0 : Int)), (D.int IntKind.u64 (0 : Int)), (D.sl Own.full 0 [])] (x4).snd) fun (x9 : (D × St)) =>
 (bn (Option.map (fun (x10 : St) => ((D.tup []), x10)) (storeO Bool.true 6 (x9).fst x6 (x9).snd)) fun (x10 : (D × St)) =>
 (bn (call 15 [a0] (x10).snd) fun (x11 : (Res × St)) =>
 (Res.elim (x11).fst (fun (x12 : D) => (bn (extractD x12 0) fun (x13 : D) =>
 (bn (extractD x12 1) fun (x14 : D) =>
 (bn (extractD x12 2) fun (x15 : D) =>
 (bn (allocO [(D.int IntKind.i64 (0 : Int)), (D.int IntKind.i64 (0 : Int)), (D.sl Own.full 0 []), (D.sl Own.full 0 [])] (x11).snd) fun (x16 : (D × St)) =>
 (bn (Option.map (fun (x17 : St) => ((D.tup []), x17)) (storeO Bool.true 4 (x16).fst x13 (x16).snd)) fun (x17 : (D × St)) =>
 (bn (binO BinOp.neq 3 Bool.true x8 (D.int IntKind.i64 (0 : Int))) fun (x18 : D) =>
 (bn (guardB Bool.true x18) fun (x19 : Bool) =>
 (bn (ifb x19 (Option.some x15)
 (Option.some (D.tup []))) fun (x20 : D) =>
 (bn (guardB Bool.true x18) fun (x21 : Bool) =>
 (bn (ifb x21 (binO BinOp.neq 3 Bool.true x20 (D.int IntKind.i64 (0 : Int)))
 (Option.some (D.tup []))) fun (x22 : D) =>
 (bn (Option.map (fun (x23 : Bool) => (ifb x23 x22
 (D.bool Bool.false))) (D.bool? x18)) fun (x23 : D) =>
 (bn (D.bool? x23) fun (x24 : Bool) =>
 (ifb x24 (leaveD RetK.trunc A (Res.ret (D.bool Bool.true)) (x17).snd)
 (bn (binO BinOp.eql 3 Bool.true x8 (D.int IntKind.i64 (0 : Int))) fun (x25 : D) =>
 (bn (D.bool? x25) fun (x26 : Bool) =>
 (bn (ifb x26 (bn (Option.map (fun (x27 : D) => (x27, (x17).snd)) (loadO Bool.true 6 (x9).fst (x17).snd)) fun (x27 : (D × St)) =>
 (bn (call 9 [(x27).fst] (x27).snd) fun (x28 : (Res × St)) =>
 (Res.elim (x28).fst (fun (x29 : D) => (bn (extractD x29 0) fun (x30 : D) =>
 (bn (extractD x29 1) fun (x31 : D) =>
 (bn (binO BinOp.neq 3 Bool.true x31 (D.int IntKind.i64 (0 : Int))) fun (x32 : D) =>
 (bn (guardB Bool.false x32) fun (x33 : Bool) =>
 (bn (ifb x33 (Option.some x30)
 (Option.some (D.tup []))) fun (x34 : D) =>
 (bn (guardB Bool.false x32) fun (x35 : Bool) =>
 (bn (ifb x35 (convO ConvK.bytesStr x34)
 (Option.some (D.tup []))) fun (x36 : D) =>
 (bn (guardB Bool.false x32) fun (x37 : Bool) =>
 (bn (ifb x37 (Option.some a0)
 (Option.some (D.tup []))) fun (x38 : D) =>
 (bn (guardB Bool.false x32) fun (x39 : Bool) =>
 (bn (ifb x39 (convO ConvK.bytesStr x38)
 (Option.some (D.tup []))) fun (x40 : D) =>
 (bn (guardB Bool.false x32) fun (x41 : Bool) =>
 (bn (ifb x41 (binO BinOp.neq 3 Bool.false x36 x40)
 (Option.some (D.tup []))) fun (x42 : D) =>
 (bn (Option.map (fun (x43 : Bool) => (ifb x43 (D.bool Bool.true)
 x42)) (D.bool? x32)) fun (x43 : D) =>
 (bn (guardB Bool.false x43) fun (x44 : Bool) =>
 (bn (ifb x44 (Option.some x15)
 (Option.some (D.tup []))) fun (x45 : D) =>
 (bn (guardB Bool.false x43) fun (x46 : Bool) =>
 (bn (ifb x46 (binO BinOp.eql 3 Bool.true x45 (D.int IntKind.i64 (0 : Int)))
 (Option.some (D.tup []))) fun (x47 : D) =>
 (bn (Option.map (fun (x48 : Bool) => (ifb x48 (D.bool Bool.true)
 x47)) (D.bool? x43)) fun (x48 : D) =>
 (bn (D.bool? x48) fun (x49 : Bool) =>
 (ifb x49 (Option.map (Sum.inr ) (leaveD RetK.trunc A (Res.ret (D.bool Bool.false)) (x28).snd))
 (Option.some (Sum.inl ((Env.mk [a0, a1, a2, (D.tup []), (D.tup []), (D.tup []), (D.bool Bool.false), (x9).fst, x7, x8, (x16).fst, x14, x15, x30, x31, (D.tup []), (D.tup []), (D.tup []), (D.tup []), (D.tup []), (D.tup []), (D.tup []), (D.tup []), (D.tup []), (D.tup []), (D.tup []), (D.tup []), (D.tup []), (D.tup []), (D.tup []), x1, (D.bool Bool.false), x5, a0, x5, x6, x7, x8, x12, a0, x12, x13, x14, x15, x8, x18, x18, x20, x22, (D.bool Bool.false), x8, (D.bool Bool.true), x29, (x27).fst, x29, x30, x31, x31, x32, x32, x34, x36, x38, x40, x42, x43, x43, x45, x47, (D.bool Bool.false), (D.tup []), (D.tup []), (D.tup []), (D.tup []), (D.tup []), (D.tup []), (D.tup []), (D.tup []), (D.tup []), (D.tup []), (D.tup []), (D.tup []), (D.tup []), (D.tup []), (D.tup []), (D.tup []), (D.tup []), (D.tup []), (D.tup []), (D.tup []), (D.tup []), (D.tup []), (D.tup []), (D.tup []), (D.tup []), (D.tup []), (D.tup []), (D.tup []), (D.tup []), (D.tup []), (D.tup []), (D.tup []), (D.tup []), (D.tup []), (D.tup []), (D.tup []), (D.tup []), (D.tup []), (D.tup []), (D.tup []), (D.tup []), (D.tup []), (D.tup []), (D.tup []), (D.tup []), (D.tup []), (D.tup []), (D.tup []), (D.tup []), (D.tup []), (D.tup []), (D.tup []), (D.tup []), (D.tup []), (D.tup []), (D.tup []), (D.tup []), (D.tup []), (D.tup []), (D.tup []), (D.tup []), (D.tup []), (D.tup []), (D.tup []), (D.tup []), (D.tup []), (D.tup []), (D.tup []), (D.tup []), (D.tup [])] []), (x28).snd))))))))))))))))))))))))) (fun (x29 : D) => (Option.map (Sum.inr ) (leaveD RetK.trunc A (Res.pan x29) (x28).snd))))))
 (Option.some (Sum.inl ((Env.mk [a0, a1, a2, (D.tup []), (D.tup []), (D.tup []), (D.bool Bool.false), (x9).fst, x7, x8, (x16).fst, x14, x15, (D.tup []), (D.tup []), (D.tup []), (D.tup []), (D.tup []), (D.tup []), (D.tup []), (D.tup []), (D.tup []), (D.tup []), (D.tup []), (D.tup []), (D.tup []), (D.tup []), (D.tup []), (D.tup []), (D.tup []), x1, (D.bool Bool.false), x5, a0, x5, x6, x7, x8, x12, a0, x12, x13, x14, x15, x8, x18, x18, x20, x22, (D.bool Bool.false), x8, (D.bool Bool.false), (D.tup []), (D.tup []), (D.tup []), (D.tup []), (D.tup []), (D.tup []), (D.tup []), (D.tup []), (D.tup []), (D.tup []), (D.tup []), (D.tup []), (D.tup []), (D.tup []), (D.tup []), (D.tup []), (D.tup []), (D.tup []), (D.tup []), (D.tup []), (D.tup []), (D.tup []), (D.tup []), (D.tup []), (D.tup []), (D.tup []), (D.tup []), (D.tup []), (D.tup []), (D.tup []), (D.tup []), (D.tup []), (D.tup []), (D.tup []), (D.tup []), (D.tup []), (D.tup []), (D.tup []), (D.tup []), (D.tup []), (D.tup []), (D.tup []), (D.tup []), (D.tup []), (D.tup []), (D.tup []), (D.tup []), (D.tup []), (D.tup []), (D.tup []), (D.tup []), (D.tup []), (D.tup []), (D.tup []), (D.tup []), (D.tup []), (D.tup []), (D.tup []), (D.tup []), (D.tup []), (D.tup []), (D.tup []), (D.tup []), (D.tup []), (D.tup []), (D.tup []), (D.tup []), (D.tup []), (D.tup []), (D.tup []), (D.tup []), (D.tup []), (D.tup []), (D.tup []), (D.tup []), (D.tup []), (D.tup []), (D.tup []), (D.tup []), (D.tup []), (D.tup []), (D.tup []), (D.tup []), (D.tup []), (D.tup []), (D.tup []), (D.tup []), (D.tup [])] []), (x17).snd)))) fun (x27 : ((Env × St) ⊕ (Res × St))) =>
 (Sum.elim (fun (x28 : (Env × St)) => (bn (binO BinOp.eql 3 Bool.true (List.getD ((x28).fst).t 12 D.any) (D.int IntKind.i64 (0 : Int))) fun (x29 : D) =>
 (bn (D.bool? x29) fun (x30 : Bool) =>
 (bn (ifb x30 (bn (Option.map (fun (x31 : D) => (x31, (x28).snd)) (loadO Bool.true 4 (List.getD ((x28).fst).t 10 D.any) (x28).snd)) fun (x31 : (D × St)) =>
 (bn (call 18 [(x31).fst] (x31).snd) fun (x32 : (Res × St)) =>
 (Res.elim (x32).fst (fun (x33 : D) => (bn (extractD x33 0) fun (x34 : D) =>
 (bn (extractD x33 1) fun (x35 : D) =>
 (bn (binO BinOp.neq 3 Bool.true x35 (D.int IntKind.i64 (0 : Int))) fun (x36 : D) =>
 (bn (guardB Bool.false x36) fun (x37 : Bool) =>
 (bn (ifb x37 (Option.some x34)
 (Option.some (D.tup []))) fun (x38 : D) =>
 (bn (guardB Bool.false x36) fun (x39 : Bool) =>
 (bn (ifb x39 (convO ConvK.bytesStr x38)
 (Option.some (D.tup []))) fun (x40 : D) =>
 (bn (guardB Bool.false x36) fun (x41 : Bool) =>
 (bn (ifb x41 (Option.some (List.getD ((x28).fst).t 0 D.any))
 (Option.some (D.tup []))) fun (x42 : D) =>
 (bn (guardB Bool.false x36) fun (x43 : Bool) =>
 (bn (ifb x43 (convO ConvK.bytesStr x42)
 (Option.some (D.tup []))) fun (x44 : D) =>
 (bn (guardB Bool.false x36) fun (x45 : Bool) =>
 (bn (ifb x45 (binO BinOp.neq 3 Bool.false x40 x44)
 (Option.some (D.tup []))) fun (x46 : D) =>
 (bn (Option.map (fun (x47 : Bool) => (ifb x47 (D.bool Bool.true)
 x46)) (D.bool? x36)) fun (x47 : D) =>
 (bn (D.bool? x47) fun (x48 : Bool) =>
 (ifb x48 (Option.map (Sum.inr ) (bn (leavesD dcall (fun (x49 : St) => (Option.some (D.bool Bool.false))) ((x28).fst).df none (x32).snd) fun (x49 : (Res × St)) =>
 (leaveD RetK.trunc A (x49).fst (x49).snd)))
 (Option.some (Sum.inl ((Env.mk [(List.getD ((x28).fst).t 0 D.any), (List.getD ((x28).fst).t 1 D.any), (List.getD ((x28).fst).t 2 D.any), (List.getD ((x28).fst).t 3 D.any), (List.getD ((x28).fst).t 4 D.any), (List.getD ((x28).fst).t 5 D.any), (List.getD ((x28).fst).t 6 D.any), (List.getD ((x28).fst).t 7 D.any), (List.getD ((x28).fst).t 8 D.any), (List.getD ((x28).fst).t 9 D.any), (List.getD ((x28).fst).t 10 D.any), (List.getD ((x28).fst).t 11 D.any), (List.getD ((x28).fst).t 12 D.any), (List.getD ((x28).fst).t 13 D.any), (List.getD ((x28).fst).t 14 D.any), x34, x35, (List.getD ((x28).fst).t 17 D.any), (List.getD ((x28).fst).t 18 D.any), (List.getD ((x28).fst).t 19 D.any), (List.getD ((x28).fst).t 20 D.any), (List.getD ((x28).fst).t 21 D.any), (List.getD ((x28).fst).t 22 D.any), (List.getD ((x28).fst).t 23 D.any), (List.getD ((x28).fst).t 24 D.any), (List.getD ((x28).fst).t 25 D.any), (List.getD ((x28).fst).t 26 D.any), (List.getD ((x28).fst).t 27 D.any), (List.getD ((x28).fst).t 28 D.any), (List.getD ((x28).fst).t 29 D.any), (List.getD ((x28).fst).t 30 D.any), (List.getD ((x28).fst).t 31 D.any), (List.getD ((x28).fst).t 32 D.any), (List.getD ((x28).fst).t 33 D.any), (List.getD ((x28).fst).t 34 D.any), (List.getD ((x28).fst).t 35 D.any), (List.getD ((x28).fst).t 36 D.any), (List.getD ((x28).fst).t 37 D.any), (List.getD ((x28).fst).t 38 D.any), (List.getD ((x28).fst).t 39 D.any), (List.getD ((x28).fst).t 40 D.any), (List.getD ((x28).fst).t 41 D.any), (List.getD ((x28).fst).t 42 D.any), (List.getD ((x28).fst).t 43 D.any), (List.getD ((x28).fst).t 44 D.any), (List.getD ((x28).fst).t 45 D.any), (List.getD ((x28).fst).t 46 D.any), (List.getD ((x28).fst).t 47 D.any), (List.getD ((x28).fst).t 48 D.any), (List.getD ((x28).fst).t 49 D.any), (List.getD ((x28).fst).t 50 D.any), (List.getD ((x28).fst).t 51 D.any), (List.getD ((x28).fst).t 52 D.any), (List.getD ((x28).fst).t 53 D.any), (List.getD ((x28).fst).t 54 D.any), (List.getD ((x28).fst).t 55 D.any), (List.getD ((x28).fst).t 56 D.any), (List.getD ((x28).fst).t 57 D.any), (List.getD ((x28).fst).t 58 D.any), (List.getD ((x28).fst).t 59 D.any), (List.getD ((x28).fst).t 60 D.any), (List.getD ((x28).fst).t 61 D.any), (List.getD ((x28).fst).t 62 D.any), (List.getD ((x28).fst).t 63 D.any), (List.getD ((x28).fst).t 64 D.any), (List.getD ((x28).fst).t 65 D.any), (List.getD ((x28).fst).t 66 D.any), (List.getD ((x28).fst).t 67 D.any), (List.getD ((x28).fst).t 68 D.any), (List.getD ((x28).fst).t 69 D.any), (List.getD ((x28).fst).t 12 D.any), (D.bool Bool.true), x33, (x31).fst, x33, x34, x35, x35, x36, x36, x38, x40, x42, x44, x46, (D.bool Bool.false), (List.getD ((x28).fst).t 86 D.any), (List.getD ((x28).fst).t 87 D.any), (List.getD ((x28).fst).t 88 D.any), (List.getD ((x28).fst).t 89 D.any), (List.getD ((x28).fst).t 90 D.any), (List.getD ((x28).fst).t 91 D.any), (List.getD ((x28).fst).t 92 D.any), (List.getD ((x28).fst).t 93 D.any), (List.getD ((x28).fst).t 94 D.any), (List.getD ((x28).fst).t 95 D.any), (List.getD ((x28).fst).t 96 D.any), (List.getD ((x28).fst).t 97 D.any), (List.getD ((x28).fst).t 98 D.any), (List.getD ((x28).fst).t 99 D.any), (List.getD ((x28).fst).t 100 D.any), (List.getD ((x28).fst).t 101 D.any), (List.getD ((x28).fst).t 102 D.any), (List.getD ((x28).fst).t 103 D.any), (List.getD ((x28).fst).t 104 D.any), (List.getD ((x28).fst).t 105 D.any), (List.getD ((x28).fst).t 106 D.any), (List.getD ((x28).fst).t 107 D.any), (List.getD ((x28).fst).t 108 D.any), (List.getD ((x28).fst).t 109 D.any), (List.getD ((x28).fst).t 110 D.any), (List.getD ((x28).fst).t 111 D.any), (List.getD ((x28).fst).t 112 D.any), (List.getD ((x28).fst).t 113 D.any), (List.getD ((x28).fst).t 114 D.any), (List.getD ((x28).fst).t 115 D.any), (List.getD ((x28).fst).t 116 D.any), (List.getD ((x28).fst).t 117 D.any), (List.getD ((x28).fst).t 118 D.any), (List.getD ((x28).fst).t 119 D.any), (List.getD ((x28).fst).t 120 D.any), (List.getD ((x28).fst).t 121 D.any), (List.getD ((x28).fst).t 122 D.any), (List.getD ((x28).fst).t 123 D.any), (List.getD ((x28).fst).t 124 D.any), (List.getD ((x28).fst).t 125 D.any), (List.getD ((x28).fst).t 126 D.any), (List.getD ((x28).fst).t 127 D.any), (List.getD ((x28).fst).t 128 D.any), (List.getD ((x28).fst).t 129 D.any), (List.getD ((x28).fst).t 130 D.any), (List.getD ((x28).fst).t 131 D.any), (List.getD ((x28).fst).t 132 D.any), (List.getD ((x28).fst).t 133 D.any), (List.getD ((x28).fst).t 134 D.any), (List.getD ((x28).fst).t 135 D.any), (List.getD ((x28).fst).t 136 D.any), (List.getD ((x28).fst).t 137 D.any), (List.getD ((x28).fst).t 138 D.any), (List.getD ((x28).fst).t 139 D.any)] ((x28).fst).df), (x32).snd)))))))))))))))))))) (fun (x33 : D) => (Option.map (Sum.inr ) (bn (leavesD dcall (fun (x34 : St) => (Option.some (List.getD ((x28).fst).t 6 D.any))) ((x28).fst).df (Option.some x33) (x32).snd) fun (x34 : (Res × St)) =>
 (leaveD RetK.trunc A (x34).fst (x34).snd)))))))
 (Option.some (Sum.inl ((Env.mk [(List.getD ((x28).fst).t 0 D.any), (List.getD ((x28).fst).t 1 D.any), (List.getD ((x28).fst).t 2 D.any), (List.getD ((x28).fst).t 3 D.any), (List.getD ((x28).fst).t 4 D.any), (List.getD ((x28).fst).t 5 D.any), (List.getD ((x28).fst).t 6 D.any), (List.getD ((x28).fst).t 7 D.any), (List.getD ((x28).fst).t 8 D.any), (List.getD ((x28).fst).t 9 D.any), (List.getD ((x28).fst).t 10 D.any), (List.getD ((x28).fst).t 11 D.any), (List.getD ((x28).fst).t 12 D.any), (List.getD ((x28).fst).t 13 D.any), (List.getD ((x28).fst).t 14 D.any), (List.getD ((x28).fst).t 15 D.any), (List.getD ((x28).fst).t 16 D.any), (List.getD ((x28).fst).t 17 D.any), (List.getD ((x28).fst).t 18 D.any), (List.getD ((x28).fst).t 19 D.any), (List.getD ((x28).fst).t 20 D.any), (List.getD ((x28).fst).t 21 D.any), (List.getD ((x28).fst).t 22 D.any), (List.getD ((x28).fst).t 23 D.any), (List.getD ((x28).fst).t 24 D.any), (List.getD ((x28).fst).t 25 D.any), (List.getD ((x28).fst).t 26 D.any), (List.getD ((x28).fst).t 27 D.any), (List.getD ((x28).fst).t 28 D.any), (List.getD ((x28).fst).t 29 D.any), (List.getD ((x28).fst).t 30 D.any), (List.getD ((x28).fst).t 31 D.any), (List.getD ((x28).fst).t 32 D.any), (List.getD ((x28).fst).t 33 D.any), (List.getD ((x28).fst).t 34 D.any), (List.getD ((x28).fst).t 35 D.any), (List.getD ((x28).fst).t 36 D.any), (List.getD ((x28).fst).t 37 D.any), (List.getD ((x28).fst).t 38 D.any), (List.getD ((x28).fst).t 39 D.any), (List.getD ((x28).fst).t 40 D.any), (List.getD ((x28).fst).t 41 D.any), (List.getD ((x28).fst).t 42 D.any), (List.getD ((x28).fst).t 43 D.any), (List.getD ((x28).fst).t 44 D.any), (List.getD ((x28).fst).t 45 D.any), (List.getD ((x28).fst).t 46 D.any), (List.getD ((x28).fst).t 47 D.any), (List.getD ((x28).fst).t 48 D.any), (List.getD ((x28).fst).t 49 D.any), (List.getD ((x28).fst).t 50 D.any), (List.getD ((x28).fst).t 51 D.any), (List.getD ((x28).fst).t 52 D.any), (List.getD ((x28).fst).t 53 D.any), (List.getD ((x28).fst).t 54 D.any), (List.getD ((x28).fst).t 55 D.any), (List.getD ((x28).fst).t 56 D.any), (List.getD ((x28).fst).t 57 D.any), (List.getD ((x28).fst).t 58 D.any), (List.getD ((x28).fst).t 59 D.any), (List.getD ((x28).fst).t 60 D.any), (List.getD ((x28).fst).t 61 D.any), (List.getD ((x28).fst).t 62 D.any), (List.getD ((x28).fst).t 63 D.any), (List.getD ((x28).fst).t 64 D.any), (List.getD ((x28).fst).t 65 D.any), (List.getD ((x28).fst).t 66 D.any), (List.getD ((x28).fst).t 67 D.any), (List.getD ((x28).fst).t 68 D.any), (List.getD ((x28).fst).t 69 D.any), (List.getD ((x28).fst).t 12 D.any), (D.bool Bool.false), (List.getD ((x28).fst).t 72 D.any), (List.getD ((x28).fst).t 73 D.any), (List.getD ((x28).fst).t 74 D.any), (List.getD ((x28).fst).t 75 D.any), (List.getD ((x28).fst).t 76 D.any), (List.getD ((x28).fst).t 77 D.any), (List.getD ((x28).fst).t 78 D.any), (List.getD ((x28).fst).t 79 D.any), (List.getD ((x28).fst).t 80 D.any), (List.getD ((x28).fst).t 81 D.any), (List.getD ((x28).fst).t 82 D.any), (List.getD ((x28).fst).t 83 D.any), (List.getD ((x28).fst).t 84 D.any), (List.getD ((x28).fst).t 85 D.any), (List.getD ((x28).fst).t 86 D.any), (List.getD ((x28).fst).t 87 D.any), (List.getD ((x28).fst).t 88 D.any), (List.getD ((x28).fst).t 89 D.any), (List.getD ((x28).fst).t 90 D.any), (List.getD ((x28).fst).t 91 D.any), (List.getD ((x28).fst).t 92 D.any), (List.getD ((x28).fst).t 93 D.any), (List.getD ((x28).fst).t 94 D.any), (List.getD ((x28).fst).t 95 D.any), (List.getD ((x28).fst).t 96 D.any), (List.getD ((x28).fst).t 97 D.any), (List.getD ((x28).fst).t 98 D.any), (List.getD ((x28).fst).t 99 D.any), (List.getD ((x28).fst).t 100 D.any), (List.getD ((x28).fst).t 101 D.any), (List.getD ((x28).fst).t 102 D.any), (List.getD ((x28).fst).t 103 D.any), (List.getD ((x28).fst).t 104 D.any), (List.getD ((x28).fst).t 105 D.any), (List.getD ((x28).fst).t 106 D.any), (List.getD ((x28).fst).t 107 D.any), (List.getD ((x28).fst).t 108 D.any), (List.getD ((x28).fst).t 109 D.any), (List.getD ((x28).fst).t 110 D.any), (List.getD ((x28).fst).t 111 D.any), (List.getD ((x28).fst).t 112 D.any), (List.getD ((x28).fst).t 113 D.any), (List.getD ((x28).fst).t 114 D.any), (List.getD ((x28).fst).t 115 D.any), (List.getD ((x28).fst).t 116 D.any), (List.getD ((x28).fst).t 117 D.any), (List.getD ((x28).fst).t 118 D.any), (List.getD ((x28).fst).t 119 D.any), (List.getD ((x28).fst).t 120 D.any), (List.getD ((x28).fst).t 121 D.any), (List.getD ((x28).fst).t 122 D.any), (List.getD ((x28).fst).t 123 D.any), (List.getD ((x28).fst).t 124 D.any), (List.getD ((x28).fst).t 125 D.any), (List.getD ((x28).fst).t 126 D.any), (List.getD ((x28).fst).t 127 D.any), (List.getD ((x28).fst).t 128 D.any), (List.getD ((x28).fst).t 129 D.any), (List.getD ((x28).fst).t 130 D.any), (List.getD ((x28).fst).t 131 D.any), (List.getD ((x28).fst).t 132 D.any), (List.getD ((x28).fst).t 133 D.any), (List.getD ((x28).fst).t 134 D.any), (List.getD ((x28).fst).t 135 D.any), (List.getD ((x28).fst).t 136 D.any), (List.getD ((x28).fst).t 137 D.any), (List.getD ((x28).fst).t 138 D.any), (List.getD ((x28).fst).t 139 D.any)] ((x28).fst).df), (x28).snd)))) fun (x31 : ((Env × St) ⊕ (Res × St))) =>
 (Sum.elim (fun (x32 : (Env × St)) => (bn (appendO 1 1 (D.sl Own.full 1 []) (List.getD ((x32).fst).t 0 D.any) (x32).snd) fun (x33 : (D × St)) =>
 (bn (Option.map (fun (x34 : D) => (x34, (x33).snd)) (Option.map (D.sl Own.full 1) (sliceParts 1 Bool.false 0 [(0, (List.getD ((x32).fst).t 2 D.any))]))) fun (x34 : (D × St)) =>
 (bn (appendO 1 1 (x33).fst (x34).fst (x34).snd) fun (x35 : (D × St)) =>
 (bn (call 11 [(x35).fst] (x35).snd) fun (x36 : (Res × St)) =>
 (Res.elim (x36).fst (fun (x37 : D) => (bn (extractD x37 0) fun (x38 : D) =>
 (bn (extractD x37 1) fun (x39 : D) =>
 (bn (extractD x37 2) fun (x40 : D) =>
 (bn (allocO [(D.int IntKind.u8 (0 : Int)), (D.int IntKind.u32 (0 : Int)), (D.int IntKind.u32 (0 : Int)), (D.int IntKind.u64 (0 : Int)), (D.int IntKind.u64 (0 : Int)), (D.sl Own.full 0 [])] (x36).snd) fun (x41 : (D × St)) =>
 (bn (Option.map (fun (x42 : St) => ((D.tup []), x42)) (storeO Bool.true 6 (x41).fst x38 (x41).snd)) fun (x42 : (D × St)) =>
 (bn (call 15 [(x35).fst] (x42).snd) fun (x43 : (Res × St)) =>
 (Res.elim (x43).fst (fun (x44 : D) => (bn (extractD x44 0) fun (x45 : D) =>
 (bn (extractD x44 1) fun (x46 : D) =>
 (bn (extractD x44 2) fun (x47 : D) =>
 (bn (allocO [(D.int IntKind.i64 (0 : Int)), (D.int IntKind.i64 (0 : Int)), (D.sl Own.full 0 []), (D.sl Own.full 0 [])] (x43).snd) fun (x48 : (D × St)) =>
 (bn (Option.map (fun (x49 : St) => ((D.tup []), x49)) (storeO Bool.true 4 (x48).fst x45 (x48).snd)) fun (x49 : (D × St)) =>
 (bn (binO BinOp.eql 3 Bool.true x40 (D.int IntKind.i64 (0 : Int))) fun (x50 : D) =>
 (bn (guardB Bool.false x50) fun (x51 : Bool) =>
 (bn (ifb x51 (Option.some x47)
 (Option.some (D.tup []))) fun (x52 : D) =>
 (bn (guardB Bool.false x50) fun (x53 : Bool) =>
 (bn (ifb x53 (binO BinOp.eql 3 Bool.true x52 (D.int IntKind.i64 (0 : Int)))
 (Option.some (D.tup []))) fun (x54 : D) =>
 (bn (Option.map (fun (x55 : Bool) => (ifb x55 (D.bool Bool.true)
 x54)) (D.bool? x50)) fun (x55 : D) =>
 (bn (D.bool? x55) fun (x56 : Bool) =>
 (ifb x56 (bn (leavesD dcall (fun (x57 : St) => (Option.some (D.bool Bool.false))) ((x32).fst).df none (x49).snd) fun (x57 : (Res × St)) =>
 (leaveD RetK.trunc A (x57).fst (x57).snd))
 (bn (binO BinOp.lss 3 Bool.true (List.getD ((x32).fst).t 1 D.any) (D.int IntKind.i64 (0 : Int))) fun (x57 : D) =>
 (bn (guardB Bool.false x57) fun (x58 : Bool) =>
 (bn (ifb x58 (Option.some (List.getD ((x32).fst).t 1 D.any))
 (Option.some (D.tup []))) fun (x59 : D) =>
 (bn (guardB Bool.false x57) fun (x60 : Bool) =>
 (bn (ifb x60 (Option.some (List.getD ((x32).fst).t 0 D.any))
 (Option.some (D.tup []))) fun (x61 : D) =>
 (bn (guardB Bool.false x57) fun (x62 : Bool) =>
 (bn (ifb x62 (lenSlO x61)
 (Option.some (D.tup []))) fun (x63 : D) =>
 (bn (guardB Bool.false x57) fun (x64 : Bool) =>
 (bn (ifb x64 (binO BinOp.geq 3 Bool.false x59 x63)
 (Option.some (D.tup []))) fun (x65 : D) =>
 (bn (Option.map (fun (x66 : Bool) => (ifb x66 (D.bool Bool.true)
 x65)) (D.bool? x57)) fun (x66 : D) =>
 (bn (D.bool? x66) fun (x67 : Bool) =>
 (ifb x67 (bn (leavesD dcall (fun (x68 : St) => (Option.some (D.bool Bool.true))) ((x32).fst).df none (x49).snd) fun (x68 : (Res × St)) =>
 (leaveD RetK.trunc A (x68).fst (x68).snd))
 (bn (sliceSlO 1 (List.getD ((x32).fst).t 0 D.any) none (Option.some (List.getD ((x32).fst).t 1 D.any)) none) fun (x68 : D) =>
 (bn (call 11 [x68] (x49).snd) fun (x69 : (Res × St)) =>
 (Res.elim (x69).fst (fun (x70 : D) => (bn (extractD x70 0) fun (x71 : D) =>
 (bn (extractD x70 1) fun (x72 : D) =>
 (bn (extractD x70 2) fun (x73 : D) =>
 (bn (allocO [(D.int IntKind.u8 (0 : Int)), (D.int IntKind.u32 (0 : Int)), (D.int IntKind.u32 (0 : Int)), (D.int IntKind.u64 (0 : Int)), (D.int IntKind.u64 (0 : Int)), (D.sl Own.full 0 [])] (x69).snd) fun (x74 : (D × St)) =>
 (bn (Option.map (fun (x75 : St) => ((D.tup []), x75)) (storeO Bool.true 6 (x74).fst x71 (x74).snd)) fun (x75 : (D × St)) =>
 (bn (sliceSlO 1 (List.getD ((x32).fst).t 0 D.any) none (Option.some (List.getD ((x32).fst).t 1 D.any)) none) fun (x76 : D) =>
 (bn (call 15 [x76] (x75).snd) fun (x77 : (Res × St)) =>
 (Res.elim (x77).fst (fun (x78 : D) => (bn (extractD x78 0) fun (x79 : D) =>
 (bn (extractD x78 1) fun (x80 : D) =>
 (bn (extractD x78 2) fun (x81 : D) =>
 (bn (allocO [(D.int IntKind.i64 (0 : Int)), (D.int IntKind.i64 (0 : Int)), (D.sl Own.full 0 []), (D.sl Own.full 0 [])] (x77).snd) fun (x82 : (D × St)) =>
 (bn (Option.map (fun (x83 : St) => ((D.tup []), x83)) (storeO Bool.true 4 (x82).fst x79 (x82).snd)) fun (x83 : (D × St)) =>
 (bn (binO BinOp.neq 3 Bool.true x73 (D.int IntKind.i64 (0 : Int))) fun (x84 : D) =>
 (bn (guardB Bool.true x84) fun (x85 : Bool) =>
 (bn (ifb x85 (Option.some x81)
 (Option.some (D.tup []))) fun (x86 : D) =>
 (bn (guardB Bool.true x84) fun (x87 : Bool) =>
 (bn (ifb x87 (binO BinOp.neq 3 Bool.true x86 (D.int IntKind.i64 (0 : Int)))
 (Option.some (D.tup []))) fun (x88 : D) =>
 (bn (Option.map (fun (x89 : Bool) => (ifb x89 x88
 (D.bool Bool.false))) (D.bool? x84)) fun (x89 : D) =>
 (bn (leavesD dcall (fun (x90 : St) => (Option.some x89)) ((x32).fst).df none (x83).snd) fun (x90 : (Res × St)) =>
 (leaveD RetK.trunc A (x90).fst (x90).snd)))))))))))))) (fun (x78 : D) => (bn (leavesD dcall (fun (x79 : St) => (Option.some (List.getD ((x32).fst).t 6 D.any))) ((x32).fst).df (Option.some x78) (x77).snd) fun (x79 : (Res × St)) =>
 (leaveD RetK.trunc A (x79).fst (x79).snd)))))))))))) (fun (x70 : D) => (bn (leavesD dcall (fun (x71 : St) => (Option.some (List.getD ((x32).fst).t 6 D.any))) ((x32).fst).df (Option.some x70) (x69).snd) fun (x71 : (Res × St)) =>
 (leaveD RetK.trunc A (x71).fst (x71).snd)))))))))))))))))))))))))))))))) (fun (x44 : D) => (bn (leavesD dcall (fun (x45 : St) => (Option.some (List.getD ((x32).fst).t 6 D.any))) ((x32).fst).df (Option.some x44) (x43).snd) fun (x45 : (Res × St)) =>
 (leaveD RetK.trunc A (x45).fst (x45).snd))))))))))) (fun (x37 : D) => (bn (leavesD dcall (fun (x38 : St) => (Option.some (List.getD ((x32).fst).t 6 D.any))) ((x32).fst).df (Option.some x37) (x36).snd) fun (x38 : (Res × St)) =>
 (leaveD RetK.trunc A (x38).fst (x38).snd))))))))) (fun (x32 : (Res × St)) => (Option.some x32)) x31))))) (fun (x28 : (Res × St)) => (Option.some x28)) x27)))))))))))))))))) (fun (x12 : D) => (leaveD RetK.trunc A (Res.pan x12) (x11).snd)))))))))) (fun (x5 : D) => (leaveD RetK.trunc A (Res.pan x5) (x4).snd)))))))) (fun (x1 : D) => (leaveD RetK.trunc A (Res.pan x1) (x0).snd))))
theorem r8 (a0 a1 a2 : D) (A : St) : Run Try.prog codecH 8 [a0, a1, a2] A = f8 (Run Try.prog codecH) (Dcall Try.prog codecH) a0 a1 a2 A := by
  rw [Run_eqK (J := k8)]
  kernel_rfl
end Go.Vm.Codec
