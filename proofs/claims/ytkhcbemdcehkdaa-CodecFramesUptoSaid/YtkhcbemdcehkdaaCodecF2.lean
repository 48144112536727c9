/- Written by a program: what the abstract run of each function comes to, one definition a function, and its equation. -/
import Derived.Test.YtkhcbemdcehkdaaCodecH
import Derived.KernelRfl
set_option linter.all false
namespace Go.Vm.Codec
open Go.Proofs
set_option maxRecDepth 100000
set_option linter.unusedVariables false
set_option maxHeartbeats 0
noncomputable def f5_s0 (call : (FuncId → ((List D) → (St → ORes)))) (dcall : (D → ((List D) → ((Option D) → (St → (Option ((Option D) × St))))))) (A : St) (e : Env) (Av4 : St) : (Option ((Env × St) ⊕ (Res × St))) :=
  (bn (binO BinOp.lss 3 Bool.false (List.getD (e).t 34 D.any) (List.getD (e).t 33 D.any)) fun (x0 : D) =>
 (bn (D.bool? x0) fun (x1 : Bool) =>
 (ifb x1 (bn (indexAddrO 1 Bool.false (List.getD (e).t 3 D.any) (List.getD (e).t 34 D.any)) fun (x2 : D) =>
 (bn (Option.map (fun (x3 : (D × St)) => (x3).fst) (Option.map (fun (x3 : D) => (x3, Av4)) (loadO Bool.false 1 x2 Av4))) fun (x3 : D) =>
 (bn (indexAddrO 1 Bool.false (List.getD (e).t 0 D.any) (List.getD (e).t 34 D.any)) fun (x4 : D) =>
 (bn (Option.map (fun (x5 : (D × St)) => (x5).fst) (Option.map (fun (x5 : D) => (x5, Av4)) (loadO Bool.false 1 x4 Av4))) fun (x5 : D) =>
 (bn (binO BinOp.neq 3 Bool.false x3 x5) fun (x6 : D) =>
 (guardP True (bn (D.bool? x6) fun (x7 : Bool) =>
 (ifb x7 (Option.map (Sum.inr ) (bn (leavesD dcall (fun (x8 : St) => (Option.some (D.bool Bool.false))) (e).df none Av4) fun (x8 : (Res × St)) =>
 (leaveD RetK.trunc A (x8).fst (x8).snd)))
 (bn (indexAddrO 1 Bool.false (List.getD (e).t 3 D.any) (List.getD (e).t 34 D.any)) fun (x8 : D) =>
 (bn (Option.map (fun (x9 : D) => (x9, Av4)) (loadO Bool.false 1 x8 Av4)) fun (x9 : (D × St)) =>
 (bn (unD UnOp.xor (x9).fst) fun (x10 : D) =>
 (bn (indexAddrO 1 Bool.false (List.getD (e).t 3 D.any) (List.getD (e).t 34 D.any)) fun (x11 : D) =>
 (bn (Option.map (fun (x12 : St) => ((D.tup []), x12)) (storeO Bool.false 1 x11 x10 (x9).snd)) fun (x12 : (D × St)) =>
 (bn (binO BinOp.add 3 Bool.true (List.getD (e).t 34 D.any) (D.int IntKind.i64 (1 : Int))) fun (x13 : D) =>
 (guardP (Kept Av4 (x12).snd) (Option.some (Sum.inl ((Env.mk [(D.shut (List.length Av4) (List.getD (e).t 0 D.any)), D.any, D.any, (D.shut (List.length Av4) (List.getD (e).t 3 D.any)), (D.shut (List.length Av4) (List.getD (e).t 4 D.any)), D.any, (D.shut (List.length Av4) (List.getD (e).t 6 D.any)), (D.shut (List.length Av4) (List.getD (e).t 7 D.any)), D.any, (D.shut (List.length Av4) (List.getD (e).t 9 D.any)), D.any, D.any, D.any, D.any, D.any, D.any, D.any, D.any, D.any, D.any, D.any, D.any, D.any, D.any, D.any, D.any, D.any, D.any, D.any, D.any, D.any, D.any, D.any, (D.shut (List.length Av4) (List.getD (e).t 33 D.any)), (D.shut (List.length Av4) x13), D.any, D.any, D.any, D.any, D.any, D.any, D.any, D.any, D.any, D.any, D.any, D.any, D.any, D.any, D.any, D.any, D.any, D.any, D.any, D.any, D.any, D.any, D.any, D.any, D.any, D.any, D.any, D.any, D.any, D.any, D.any, D.any, D.any, D.any, D.any, D.any, D.any, D.any, D.any, D.any, D.any, D.any, D.any, D.any, D.any, D.any, D.any, D.any, D.any, D.any, D.any, D.any, D.any] (List.map (fun (x14 : (D × (List D))) => ((D.shut (List.length Av4) x14.1), (D.shutL (List.length Av4) x14.2))) (e).df)), (List.take (List.length Av4) (x12).snd)))))))))))))))))))
 (Option.map (Sum.inr ) (bn (call 12 [(List.getD (e).t 0 D.any)] Av4) fun (x2 : (Res × St)) =>
 (Res.elim (x2).fst (fun (x3 : D) => (bn (extractD x3 0) fun (x4 : D) =>
 (bn (extractD x3 1) fun (x5 : D) =>
 (bn (extractD x3 2) fun (x6 : D) =>
 (bn (allocO [(D.int IntKind.u8 (0 : Int)), (D.int IntKind.u32 (0 : Int)), (D.int IntKind.u32 (0 : Int)), (D.int IntKind.u64 (0 : Int)), (D.int IntKind.u64 (0 : Int)), (D.sl Own.full 0 [])] (x2).snd) fun (x7 : (D × St)) =>
 (bn (Option.map (fun (x8 : St) => ((D.tup []), x8)) (storeO Bool.true 6 (x7).fst x4 (x7).snd)) fun (x8 : (D × St)) =>
 (bn (call 16 [(List.getD (e).t 0 D.any)] (x8).snd) fun (x9 : (Res × St)) =>
 (Res.elim (x9).fst (fun (x10 : D) => (bn (extractD x10 0) fun (x11 : D) =>
 (bn (extractD x10 1) fun (x12 : D) =>
 (bn (extractD x10 2) fun (x13 : D) =>
 (bn (allocO [(D.int IntKind.i64 (0 : Int)), (D.int IntKind.i64 (0 : Int)), (D.sl Own.full 0 []), (D.sl Own.full 0 [])] (x9).snd) fun (x14 : (D × St)) =>
 (bn (Option.map (fun (x15 : St) => ((D.tup []), x15)) (storeO Bool.true 4 (x14).fst x11 (x14).snd)) fun (x15 : (D × St)) =>
 (bn (binO BinOp.eql 3 Bool.false (List.getD (e).t 6 D.any) x6) fun (x16 : D) =>
 (bn (guardB Bool.true x16) fun (x17 : Bool) =>
 (bn (ifb x17 (Option.some (List.getD (e).t 9 D.any))
 (Option.some (D.tup []))) fun (x18 : D) =>
 (bn (guardB Bool.true x16) fun (x19 : Bool) =>
 (bn (ifb x19 (Option.some x13)
 (Option.some (D.tup []))) fun (x20 : D) =>
 (bn (guardB Bool.true x16) fun (x21 : Bool) =>
 (bn (ifb x21 (binO BinOp.eql 3 Bool.false x18 x20)
 (Option.some (D.tup []))) fun (x22 : D) =>
 (bn (Option.map (fun (x23 : Bool) => (ifb x23 x22
 (D.bool Bool.false))) (D.bool? x16)) fun (x23 : D) =>
 (bn (guardB Bool.true x23) fun (x24 : Bool) =>
 (bn (ifb x24 (Option.map (fun (x25 : D) => (x25, (x15).snd)) (loadO Bool.true 6 (List.getD (e).t 4 D.any) (x15).snd))
 (Option.some ((D.tup []), (x15).snd))) fun (x25 : (D × St)) =>
 (bn (guardB Bool.true x23) fun (x26 : Bool) =>
 (bn (ifb x26 (Option.map (fun (x27 : D) => (x27, (x25).snd)) (loadO Bool.true 6 (x7).fst (x25).snd))
 (Option.some ((D.tup []), (x25).snd))) fun (x27 : (D × St)) =>
 (bn (guardB Bool.true x23) fun (x28 : Bool) =>
 (bn (ifb x28 (call 13 [(x25).fst, (x27).fst] (x27).snd)
 (Option.some ((Res.ret (D.tup [])), (x27).snd))) fun (x29 : (Res × St)) =>
 (Res.elim (x29).fst (fun (x30 : D) => (bn (Option.map (fun (x31 : Bool) => (ifb x31 x30
 (D.bool Bool.false))) (D.bool? x23)) fun (x31 : D) =>
 (bn (guardB Bool.true x31) fun (x32 : Bool) =>
 (bn (ifb x32 (Option.map (fun (x33 : D) => (x33, (x29).snd)) (loadO Bool.true 4 (List.getD (e).t 7 D.any) (x29).snd))
 (Option.some ((D.tup []), (x29).snd))) fun (x33 : (D × St)) =>
 (bn (guardB Bool.true x31) fun (x34 : Bool) =>
 (bn (ifb x34 (Option.map (fun (x35 : D) => (x35, (x33).snd)) (loadO Bool.true 4 (x14).fst (x33).snd))
 (Option.some ((D.tup []), (x33).snd))) fun (x35 : (D × St)) =>
 (bn (guardB Bool.true x31) fun (x36 : Bool) =>
 (bn (ifb x36 (call 17 [(x33).fst, (x35).fst] (x35).snd)
 (Option.some ((Res.ret (D.tup [])), (x35).snd))) fun (x37 : (Res × St)) =>
 (Res.elim (x37).fst (fun (x38 : D) => (bn (Option.map (fun (x39 : Bool) => (ifb x39 x38
 (D.bool Bool.false))) (D.bool? x31)) fun (x39 : D) =>
 (bn (guardB Bool.true x39) fun (x40 : Bool) =>
 (bn (ifb x40 (call 14 [] (x37).snd)
 (Option.some ((Res.ret (D.tup [])), (x37).snd))) fun (x41 : (Res × St)) =>
 (Res.elim (x41).fst (fun (x42 : D) => (bn (Option.map (fun (x43 : Bool) => (ifb x43 x42
 (D.bool Bool.false))) (D.bool? x39)) fun (x43 : D) =>
 (bn (leavesD dcall (fun (x44 : St) => (Option.some x43)) (e).df none (x41).snd) fun (x44 : (Res × St)) =>
 (leaveD RetK.trunc A (x44).fst (x44).snd)))) (fun (x42 : D) => (bn (leavesD dcall (fun (x43 : St) => (Option.some (List.getD (e).t 2 D.any))) (e).df (Option.some x42) (x41).snd) fun (x43 : (Res × St)) =>
 (leaveD RetK.trunc A (x43).fst (x43).snd)))))))) (fun (x38 : D) => (bn (leavesD dcall (fun (x39 : St) => (Option.some (List.getD (e).t 2 D.any))) (e).df (Option.some x38) (x37).snd) fun (x39 : (Res × St)) =>
 (leaveD RetK.trunc A (x39).fst (x39).snd)))))))))))) (fun (x30 : D) => (bn (leavesD dcall (fun (x31 : St) => (Option.some (List.getD (e).t 2 D.any))) (e).df (Option.some x30) (x29).snd) fun (x31 : (Res × St)) =>
 (leaveD RetK.trunc A (x31).fst (x31).snd)))))))))))))))))))))))) (fun (x10 : D) => (bn (leavesD dcall (fun (x11 : St) => (Option.some (List.getD (e).t 2 D.any))) (e).df (Option.some x10) (x9).snd) fun (x11 : (Res × St)) =>
 (leaveD RetK.trunc A (x11).fst (x11).snd))))))))))) (fun (x3 : D) => (bn (leavesD dcall (fun (x4 : St) => (Option.some (List.getD (e).t 2 D.any))) (e).df (Option.some x3) (x2).snd) fun (x4 : (Res × St)) =>
 (leaveD RetK.trunc A (x4).fst (x4).snd)))))))))
noncomputable def f5 (call : (FuncId → ((List D) → (St → ORes)))) (dcall : (D → ((List D) → ((Option D) → (St → (Option ((Option D) × St))))))) (a0 : D) (A : St) : (Option (Res × St)) :=
  (bn (appendO 1 1 (D.sl Own.full 1 []) a0 A) fun (x0 : (D × St)) =>
 (bn (call 11 [(x0).fst] (x0).snd) fun (x1 : (Res × St)) =>
 (Res.elim (x1).fst (fun (x2 : D) => (bn (extractD x2 0) fun (x3 : D) =>
 (bn (extractD x2 1) fun (x4 : D) =>
 (bn (extractD x2 2) fun (x5 : D) =>
 (bn (allocO [(D.int IntKind.u8 (0 : Int)), (D.int IntKind.u32 (0 : Int)), (D.int IntKind.u32 (0 : Int)), (D.int IntKind.u64 (0 : Int)), (D.int IntKind.u64 (0 : Int)), (D.sl Own.full 0 [])] (x1).snd) fun (x6 : (D × St)) =>
 (bn (Option.map (fun (x7 : St) => ((D.tup []), x7)) (storeO Bool.true 6 (x6).fst x3 (x6).snd)) fun (x7 : (D × St)) =>
 (bn (call 15 [(x0).fst] (x7).snd) fun (x8 : (Res × St)) =>
 (Res.elim (x8).fst (fun (x9 : D) => (bn (extractD x9 0) fun (x10 : D) =>
 (bn (extractD x9 1) fun (x11 : D) =>
 (bn (extractD x9 2) fun (x12 : D) =>
 (bn (allocO [(D.int IntKind.i64 (0 : Int)), (D.int IntKind.i64 (0 : Int)), (D.sl Own.full 0 []), (D.sl Own.full 0 [])] (x8).snd) fun (x13 : (D × St)) =>
 (bn (Option.map (fun (x14 : St) => ((D.tup []), x14)) (storeO Bool.true 4 (x13).fst x10 (x13).snd)) fun (x14 : (D × St)) =>
 (bn (lenSlO (x0).fst) fun (x15 : D) =>
 (iterK (f5_s0 call dcall A) (Env.mk [a0, D.any, D.any, (x0).fst, (x6).fst, D.any, x5, (x13).fst, D.any, x12, D.any, D.any, D.any, D.any, D.any, D.any, D.any, D.any, D.any, D.any, D.any, D.any, D.any, D.any, D.any, D.any, D.any, D.any, D.any, D.any, D.any, D.any, D.any, x15, (D.int IntKind.i64 (0 : Int)), D.any, D.any, D.any, D.any, D.any, D.any, D.any, D.any, D.any, D.any, D.any, D.any, D.any, D.any, D.any, D.any, D.any, D.any, D.any, D.any, D.any, D.any, D.any, D.any, D.any, D.any, D.any, D.any, D.any, D.any, D.any, D.any, D.any, D.any, D.any, D.any, D.any, D.any, D.any, D.any, D.any, D.any, D.any, D.any, D.any, D.any, D.any, D.any, D.any, D.any, D.any, D.any, D.any] []) (x14).snd)))))))) (fun (x9 : D) => (leaveD RetK.trunc A (Res.pan x9) (x8).snd)))))))))) (fun (x2 : D) => (leaveD RetK.trunc A (Res.pan x2) (x1).snd)))))
theorem r5 (a0 : D) (A : St) : Run Try.prog codecH 5 [a0] A = f5 (Run Try.prog codecH) (Dcall Try.prog codecH) a0 A := by
  rw [Run_eqK (J := k5)]
  kernel_rfl
end Go.Vm.Codec
