/- Written by a program: what the abstract run of each function comes to, one definition a function, and its equation. -/
import Derived.Test.YtkhcbemdcehkdaaCodecH
import Derived.KernelRfl
set_option linter.all false
namespace Go.Vm.Codec
open Go.Proofs
set_option maxRecDepth 100000
set_option linter.unusedVariables false
set_option maxHeartbeats 0
noncomputable def f17_s0 (call : (FuncId → ((List D) → (St → ORes)))) (dcall : (D → ((List D) → ((Option D) → (St → (Option ((Option D) × St))))))) (A : St) (e : Env) (Av4 : St) : (Option ((Env × St) ⊕ (Res × St))) :=
  (bn (fieldAddrO 3 (List.getD (e).t 2 D.any)) fun (x0 : D) =>
 (bn (Option.map (fun (x1 : D) => (x1, Av4)) (loadO Bool.false 1 x0 Av4)) fun (x1 : (D × St)) =>
 (bn (lenSlO (x1).fst) fun (x2 : D) =>
 (bn (binO BinOp.lss 3 Bool.false (List.getD (e).t 5 D.any) x2) fun (x3 : D) =>
 (bn (D.bool? x3) fun (x4 : Bool) =>
 (ifb x4 (bn (fieldAddrO 3 (List.getD (e).t 2 D.any)) fun (x5 : D) =>
 (bn (Option.map (fun (x6 : (D × St)) => (x6).fst) (Option.map (fun (x6 : D) => (x6, (x1).snd)) (loadO Bool.false 1 x5 (x1).snd))) fun (x6 : D) =>
 (bn (indexAddrO 2 Bool.true x6 (List.getD (e).t 5 D.any)) fun (x7 : D) =>
 (bn (fieldAddrO 0 x7) fun (x8 : D) =>
 (bn (Option.map (fun (x9 : (D × St)) => (x9).fst) (Option.map (fun (x9 : D) => (x9, (x1).snd)) (loadO Bool.false 1 x8 (x1).snd))) fun (x9 : D) =>
 (bn (fieldAddrO 3 (List.getD (e).t 3 D.any)) fun (x10 : D) =>
 (bn (Option.map (fun (x11 : (D × St)) => (x11).fst) (Option.map (fun (x11 : D) => (x11, (x1).snd)) (loadO Bool.false 1 x10 (x1).snd))) fun (x11 : D) =>
 (bn (indexAddrO 2 Bool.true x11 (List.getD (e).t 5 D.any)) fun (x12 : D) =>
 (bn (fieldAddrO 0 x12) fun (x13 : D) =>
 (bn (Option.map (fun (x14 : (D × St)) => (x14).fst) (Option.map (fun (x14 : D) => (x14, (x1).snd)) (loadO Bool.false 1 x13 (x1).snd))) fun (x14 : D) =>
 (bn (binO BinOp.neq 3 Bool.false x9 x14) fun (x15 : D) =>
 (bn (guardB Bool.false x15) fun (x16 : Bool) =>
 (bn (ifb x16 (fieldAddrO 3 (List.getD (e).t 2 D.any))
 (Option.some (D.tup []))) fun (x17 : D) =>
 (bn (guardB Bool.false x15) fun (x18 : Bool) =>
 (bn (ifb x18 (Option.map (fun (x19 : (D × St)) => (x19).fst) (Option.map (fun (x19 : D) => (x19, (x1).snd)) (loadO Bool.false 1 x17 (x1).snd)))
 (Option.some (D.tup []))) fun (x19 : D) =>
 (bn (guardB Bool.false x15) fun (x20 : Bool) =>
 (bn (ifb x20 (Option.some (List.getD (e).t 5 D.any))
 (Option.some (D.tup []))) fun (x21 : D) =>
 (bn (guardB Bool.false x15) fun (x22 : Bool) =>
 (bn (ifb x22 (indexAddrO 2 Bool.true x19 x21)
 (Option.some (D.tup []))) fun (x23 : D) =>
 (bn (guardB Bool.false x15) fun (x24 : Bool) =>
 (bn (ifb x24 (fieldAddrO 1 x23)
 (Option.some (D.tup []))) fun (x25 : D) =>
 (bn (guardB Bool.false x15) fun (x26 : Bool) =>
 (bn (ifb x26 (Option.map (fun (x27 : (D × St)) => (x27).fst) (Option.map (fun (x27 : D) => (x27, (x1).snd)) (loadO Bool.false 1 x25 (x1).snd)))
 (Option.some (D.tup []))) fun (x27 : D) =>
 (bn (guardB Bool.false x15) fun (x28 : Bool) =>
 (bn (ifb x28 (convO ConvK.bytesStr x27)
 (Option.some (D.tup []))) fun (x29 : D) =>
 (bn (guardB Bool.false x15) fun (x30 : Bool) =>
 (bn (ifb x30 (fieldAddrO 3 (List.getD (e).t 3 D.any))
 (Option.some (D.tup []))) fun (x31 : D) =>
 (bn (guardB Bool.false x15) fun (x32 : Bool) =>
 (bn (ifb x32 (Option.map (fun (x33 : (D × St)) => (x33).fst) (Option.map (fun (x33 : D) => (x33, (x1).snd)) (loadO Bool.false 1 x31 (x1).snd)))
 (Option.some (D.tup []))) fun (x33 : D) =>
 (bn (guardB Bool.false x15) fun (x34 : Bool) =>
 (bn (ifb x34 (Option.some (List.getD (e).t 5 D.any))
 (Option.some (D.tup []))) fun (x35 : D) =>
 (bn (guardB Bool.false x15) fun (x36 : Bool) =>
 (bn (ifb x36 (indexAddrO 2 Bool.true x33 x35)
 (Option.some (D.tup []))) fun (x37 : D) =>
 (bn (guardB Bool.false x15) fun (x38 : Bool) =>
 (bn (ifb x38 (fieldAddrO 1 x37)
 (Option.some (D.tup []))) fun (x39 : D) =>
 (bn (guardB Bool.false x15) fun (x40 : Bool) =>
 (bn (ifb x40 (Option.map (fun (x41 : (D × St)) => (x41).fst) (Option.map (fun (x41 : D) => (x41, (x1).snd)) (loadO Bool.false 1 x39 (x1).snd)))
 (Option.some (D.tup []))) fun (x41 : D) =>
 (bn (guardB Bool.false x15) fun (x42 : Bool) =>
 (bn (ifb x42 (convO ConvK.bytesStr x41)
 (Option.some (D.tup []))) fun (x43 : D) =>
 (bn (guardB Bool.false x15) fun (x44 : Bool) =>
 (bn (ifb x44 (binO BinOp.neq 3 Bool.false x29 x43)
 (Option.some (D.tup []))) fun (x45 : D) =>
 (bn (Option.map (fun (x46 : Bool) => (ifb x46 (D.bool Bool.true)
 x45)) (D.bool? x15)) fun (x46 : D) =>
 (guardP True (bn (D.bool? x46) fun (x47 : Bool) =>
 (ifb x47 (Option.map (Sum.inr ) (bn (leavesD dcall (fun (x48 : St) => (Option.some (D.bool Bool.false))) (e).df none (x1).snd) fun (x48 : (Res × St)) =>
 (leaveD RetK.trunc A (x48).fst (x48).snd)))
 (bn (binO BinOp.add 3 Bool.true (List.getD (e).t 5 D.any) (D.int IntKind.i64 (1 : Int))) fun (x48 : D) =>
 (guardP (Kept Av4 (x1).snd) (Option.some (Sum.inl ((Env.mk [D.any, D.any, (D.shut (List.length Av4) (List.getD (e).t 2 D.any)), (D.shut (List.length Av4) (List.getD (e).t 3 D.any)), D.any, (D.shut (List.length Av4) x48), D.any, D.any, D.any, D.any, D.any, D.any, D.any, D.any, D.any, D.any, D.any, D.any, D.any, D.any, D.any, D.any, D.any, D.any, D.any, D.any, D.any, D.any, D.any, D.any, D.any, D.any, D.any, D.any, D.any, D.any, D.any, D.any, D.any, D.any, D.any, D.any, D.any, D.any, D.any, D.any, D.any, D.any, D.any, D.any, D.any, D.any, D.any, D.any, D.any, D.any, D.any, D.any, D.any, D.any, D.any, D.any, D.any, D.any, D.any, D.any, D.any, D.any, D.any, D.any, D.any, D.any] (List.map (fun (x49 : (D × (List D))) => ((D.shut (List.length Av4) x49.1), (D.shutL (List.length Av4) x49.2))) (e).df)), (List.take (List.length Av4) (x1).snd)))))))))))))))))))))))))))))))))))))))))))))))))))
 (Option.map (Sum.inr ) (bn (leavesD dcall (fun (x5 : St) => (Option.some (D.bool Bool.true))) (e).df none (x1).snd) fun (x5 : (Res × St)) =>
 (leaveD RetK.trunc A (x5).fst (x5).snd)))))))))
noncomputable def f17 (call : (FuncId → ((List D) → (St → ORes)))) (dcall : (D → ((List D) → ((Option D) → (St → (Option ((Option D) × St))))))) (a0 : D) (a1 : D) (A : St) : (Option (Res × St)) :=
  (bn (boxO Bool.true a0 A) fun (x0 : (D × St)) =>
 (bn (boxO Bool.true a1 (x0).snd) fun (x1 : (D × St)) =>
 (bn (fieldAddrO 0 (x0).fst) fun (x2 : D) =>
 (bn (Option.map (fun (x3 : D) => (x3, (x1).snd)) (loadO Bool.false 1 x2 (x1).snd)) fun (x3 : (D × St)) =>
 (bn (fieldAddrO 0 (x1).fst) fun (x4 : D) =>
 (bn (Option.map (fun (x5 : D) => (x5, (x3).snd)) (loadO Bool.false 1 x4 (x3).snd)) fun (x5 : (D × St)) =>
 (bn (binO BinOp.neq 3 Bool.false (x3).fst (x5).fst) fun (x6 : D) =>
 (bn (guardB Bool.false x6) fun (x7 : Bool) =>
 (bn (ifb x7 (fieldAddrO 1 (x0).fst)
 (Option.some (D.tup []))) fun (x8 : D) =>
 (bn (guardB Bool.false x6) fun (x9 : Bool) =>
 (bn (ifb x9 (Option.map (fun (x10 : D) => (x10, (x5).snd)) (loadO Bool.false 1 x8 (x5).snd))
 (Option.some ((D.tup []), (x5).snd))) fun (x10 : (D × St)) =>
 (bn (guardB Bool.false x6) fun (x11 : Bool) =>
 (bn (ifb x11 (fieldAddrO 1 (x1).fst)
 (Option.some (D.tup []))) fun (x12 : D) =>
 (bn (guardB Bool.false x6) fun (x13 : Bool) =>
 (bn (ifb x13 (Option.map (fun (x14 : D) => (x14, (x10).snd)) (loadO Bool.false 1 x12 (x10).snd))
 (Option.some ((D.tup []), (x10).snd))) fun (x14 : (D × St)) =>
 (bn (guardB Bool.false x6) fun (x15 : Bool) =>
 (bn (ifb x15 (binO BinOp.neq 3 Bool.false (x10).fst (x14).fst)
 (Option.some (D.tup []))) fun (x16 : D) =>
 (bn (Option.map (fun (x17 : Bool) => (ifb x17 (D.bool Bool.true)
 x16)) (D.bool? x6)) fun (x17 : D) =>
 (bn (guardB Bool.false x17) fun (x18 : Bool) =>
 (bn (ifb x18 (fieldAddrO 2 (x0).fst)
 (Option.some (D.tup []))) fun (x19 : D) =>
 (bn (guardB Bool.false x17) fun (x20 : Bool) =>
 (bn (ifb x20 (Option.map (fun (x21 : D) => (x21, (x14).snd)) (loadO Bool.false 1 x19 (x14).snd))
 (Option.some ((D.tup []), (x14).snd))) fun (x21 : (D × St)) =>
 (bn (guardB Bool.false x17) fun (x22 : Bool) =>
 (bn (ifb x22 (fieldAddrO 2 (x1).fst)
 (Option.some (D.tup []))) fun (x23 : D) =>
 (bn (guardB Bool.false x17) fun (x24 : Bool) =>
 (bn (ifb x24 (Option.map (fun (x25 : D) => (x25, (x21).snd)) (loadO Bool.false 1 x23 (x21).snd))
 (Option.some ((D.tup []), (x21).snd))) fun (x25 : (D × St)) =>
 (bn (guardB Bool.false x17) fun (x26 : Bool) =>
 (bn (ifb x26 (call 38 [(x21).fst, (x25).fst] (x25).snd)
 (Option.some ((Res.ret (D.tup [])), (x25).snd))) fun (x27 : (Res × St)) =>
 (Res.elim (x27).fst (fun (x28 : D) => (bn (guardB Bool.false x17) fun (x29 : Bool) =>
 (bn (ifb x29 (unD UnOp.not x28)
 (Option.some (D.tup []))) fun (x30 : D) =>
 (bn (Option.map (fun (x31 : Bool) => (ifb x31 (D.bool Bool.true)
 x30)) (D.bool? x17)) fun (x31 : D) =>
 (bn (guardB Bool.false x31) fun (x32 : Bool) =>
 (bn (ifb x32 (fieldAddrO 3 (x0).fst)
 (Option.some (D.tup []))) fun (x33 : D) =>
 (bn (guardB Bool.false x31) fun (x34 : Bool) =>
 (bn (ifb x34 (Option.map (fun (x35 : D) => (x35, (x27).snd)) (loadO Bool.false 1 x33 (x27).snd))
 (Option.some ((D.tup []), (x27).snd))) fun (x35 : (D × St)) =>
 (bn (guardB Bool.false x31) fun (x36 : Bool) =>
 (bn (ifb x36 (lenSlO (x35).fst)
 (Option.some (D.tup []))) fun (x37 : D) =>
 (bn (guardB Bool.false x31) fun (x38 : Bool) =>
 (bn (ifb x38 (fieldAddrO 3 (x1).fst)
 (Option.some (D.tup []))) fun (x39 : D) =>
 (bn (guardB Bool.false x31) fun (x40 : Bool) =>
 (bn (ifb x40 (Option.map (fun (x41 : D) => (x41, (x35).snd)) (loadO Bool.false 1 x39 (x35).snd))
 (Option.some ((D.tup []), (x35).snd))) fun (x41 : (D × St)) =>
 (bn (guardB Bool.false x31) fun (x42 : Bool) =>
 (bn (ifb x42 (lenSlO (x41).fst)
 (Option.some (D.tup []))) fun (x43 : D) =>
 (bn (guardB Bool.false x31) fun (x44 : Bool) =>
 (bn (ifb x44 (binO BinOp.neq 3 Bool.false x37 x43)
 (Option.some (D.tup []))) fun (x45 : D) =>
 (bn (Option.map (fun (x46 : Bool) => (ifb x46 (D.bool Bool.true)
 x45)) (D.bool? x31)) fun (x46 : D) =>
 (bn (D.bool? x46) fun (x47 : Bool) =>
 (ifb x47 (leaveD RetK.trunc A (Res.ret (D.bool Bool.false)) (x41).snd)
 (iterK (f17_s0 call dcall A) (Env.mk [D.any, D.any, (x0).fst, (x1).fst, D.any, (D.int IntKind.i64 (0 : Int)), D.any, D.any, D.any, D.any, D.any, D.any, D.any, D.any, D.any, D.any, D.any, D.any, D.any, D.any, D.any, D.any, D.any, D.any, D.any, D.any, D.any, D.any, D.any, D.any, D.any, D.any, D.any, D.any, D.any, D.any, D.any, D.any, D.any, D.any, D.any, D.any, D.any, D.any, D.any, D.any, D.any, D.any, D.any, D.any, D.any, D.any, D.any, D.any, D.any, D.any, D.any, D.any, D.any, D.any, D.any, D.any, D.any, D.any, D.any, D.any, D.any, D.any, D.any, D.any, D.any, D.any] []) (x41).snd)))))))))))))))))))))) (fun (x28 : D) => (leaveD RetK.trunc A (Res.pan x28) (x27).snd)))))))))))))))))))))))))))))))
theorem r17 (a0 a1 : D) (A : St) : Run Try.prog codecH 17 [a0, a1] A = f17 (Run Try.prog codecH) (Dcall Try.prog codecH) a0 a1 A := by
  rw [Run_eqK (J := k17)]
  kernel_rfl
noncomputable def f38_s0 (call : (FuncId → ((List D) → (St → ORes)))) (dcall : (D → ((List D) → ((Option D) → (St → (Option ((Option D) × St))))))) (A : St) (e : Env) (Av4 : St) : (Option ((Env × St) ⊕ (Res × St))) :=
  (bn (lenSlO (List.getD (e).t 0 D.any)) fun (x0 : D) =>
 (bn (binO BinOp.lss 3 Bool.false (List.getD (e).t 5 D.any) x0) fun (x1 : D) =>
 (bn (D.bool? x1) fun (x2 : Bool) =>
 (ifb x2 (bn (indexAddrO 2 Bool.true (List.getD (e).t 0 D.any) (List.getD (e).t 5 D.any)) fun (x3 : D) =>
 (bn (Option.map (fun (x4 : (D × St)) => (x4).fst) (Option.map (fun (x4 : D) => (x4, Av4)) (loadO Bool.true 2 x3 Av4))) fun (x4 : D) =>
 (bn (indexAddrO 2 Bool.true (List.getD (e).t 1 D.any) (List.getD (e).t 5 D.any)) fun (x5 : D) =>
 (bn (Option.map (fun (x6 : (D × St)) => (x6).fst) (Option.map (fun (x6 : D) => (x6, Av4)) (loadO Bool.true 2 x5 Av4))) fun (x6 : D) =>
 (bn (binO BinOp.neq 102 Bool.false x4 x6) fun (x7 : D) =>
 (guardP True (bn (D.bool? x7) fun (x8 : Bool) =>
 (ifb x8 (Option.map (Sum.inr ) (bn (leavesD dcall (fun (x9 : St) => (Option.some (D.bool Bool.false))) (e).df none Av4) fun (x9 : (Res × St)) =>
 (leaveD RetK.trunc A (x9).fst (x9).snd)))
 (bn (binO BinOp.add 3 Bool.true (List.getD (e).t 5 D.any) (D.int IntKind.i64 (1 : Int))) fun (x9 : D) =>
 (guardP (Kept Av4 Av4) (Option.some (Sum.inl ((Env.mk [(D.shut (List.length Av4) (List.getD (e).t 0 D.any)), (D.shut (List.length Av4) (List.getD (e).t 1 D.any)), D.any, D.any, D.any, (D.shut (List.length Av4) x9), D.any, D.any, D.any, D.any, D.any, D.any, D.any, D.any, D.any, D.any, D.any, D.any, D.any, D.any, D.any, D.any, D.any, D.any, D.any, D.any] (List.map (fun (x10 : (D × (List D))) => ((D.shut (List.length Av4) x10.1), (D.shutL (List.length Av4) x10.2))) (e).df)), (List.take (List.length Av4) Av4))))))))))))))
 (Option.map (Sum.inr ) (bn (leavesD dcall (fun (x3 : St) => (Option.some (D.bool Bool.true))) (e).df none Av4) fun (x3 : (Res × St)) =>
 (leaveD RetK.trunc A (x3).fst (x3).snd)))))))
noncomputable def f38 (call : (FuncId → ((List D) → (St → ORes)))) (dcall : (D → ((List D) → ((Option D) → (St → (Option ((Option D) × St))))))) (a0 : D) (a1 : D) (A : St) : (Option (Res × St)) :=
  (bn (lenSlO a0) fun (x0 : D) =>
 (bn (lenSlO a1) fun (x1 : D) =>
 (bn (binO BinOp.neq 3 Bool.false x0 x1) fun (x2 : D) =>
 (bn (D.bool? x2) fun (x3 : Bool) =>
 (ifb x3 (leaveD RetK.trunc A (Res.ret (D.bool Bool.false)) A)
 (iterK (f38_s0 call dcall A) (Env.mk [a0, a1, D.any, D.any, D.any, (D.int IntKind.i64 (0 : Int)), D.any, D.any, D.any, D.any, D.any, D.any, D.any, D.any, D.any, D.any, D.any, D.any, D.any, D.any, D.any, D.any, D.any, D.any, D.any, D.any] []) A))))))
theorem r38 (a0 a1 : D) (A : St) : Run Try.prog codecH 38 [a0, a1] A = f38 (Run Try.prog codecH) (Dcall Try.prog codecH) a0 a1 A := by
  rw [Run_eqK (J := k38)]
  kernel_rfl
end Go.Vm.Codec
