/- The run reckoned, over the functions' texts. -/
import Derived.Test.YtikjlgcbcljehaaGreatDoorRxF1
import Derived.Test.YtikjlgcbcljehaaGreatDoorRxF2
set_option linter.all false
namespace Go.Vm.Rx
open Go.Proofs
set_option maxRecDepth 100000
set_option linter.unusedVariables false
set_option maxHeartbeats 0
noncomputable def evCall10 (M : Mode) (call : FuncId → List D → St → ORes) (dcall : D → List D → Option D → St → Option (Option D × St)) (f : FuncId) (args : List D) (A : St) : ORes :=
  match f, args with
  | 82, zs => (match rxExt 82 with | some x => x zs A | none => none)
  | 108, zs => (match rxExt 108 with | some x => x zs A | none => none)
  | _, _ => none
theorem evCall10_le (M : Mode) (call : FuncId → List D → St → ORes) (dcall : D → List D → Option D → St → Option (Option D × St)) (f : FuncId) (args : List D) (A : St) : OLe (evCall10 M call dcall f args A) (bodyK M Tryz.prog rxH kk call dcall f args A) := by
  unfold evCall10
  split
  · exact OLe.of_eq rfl
  · exact OLe.of_eq rfl
  · exact OLe.none _
noncomputable def evCall9 (M : Mode) (call : FuncId → List D → St → ORes) (dcall : D → List D → Option D → St → Option (Option D × St)) (f : FuncId) (args : List D) (A : St) : ORes :=
  match f, args with
  | 101, [a0, a1] => f101 M call dcall a0.canon a1.canon A
  | 102, [a0, a1] => f102 M call dcall a0.canon a1.canon A
  | 103, [a0, a1] => f103 M call dcall a0.canon a1.canon A
  | 104, [a0] => f104 M call dcall a0.canon A
  | 109, [a0] => f109 M call dcall a0.canon A
  | 35, zs => (match rxExt 35 with | some x => x zs A | none => none)
  | 36, zs => (match rxExt 36 with | some x => x zs A | none => none)
  | 53, zs => (match rxExt 53 with | some x => x zs A | none => none)
  | f, args => evCall10 M call dcall f args A
theorem evCall9_le (M : Mode) (call : FuncId → List D → St → ORes) (dcall : D → List D → Option D → St → Option (Option D × St)) (f : FuncId) (args : List D) (A : St) : OLe (evCall9 M call dcall f args A) (bodyK M Tryz.prog rxH kk call dcall f args A) := by
  unfold evCall9
  split
  · exact OLe.of_eq (b101 M call dcall _ _ A).symm
  · exact OLe.of_eq (b102 M call dcall _ _ A).symm
  · exact OLe.of_eq (b103 M call dcall _ _ A).symm
  · exact OLe.of_eq (b104 M call dcall _ A).symm
  · exact OLe.of_eq (b109 M call dcall _ A).symm
  · exact OLe.of_eq rfl
  · exact OLe.of_eq rfl
  · exact OLe.of_eq rfl
  · exact evCall10_le M call dcall _ _ A
noncomputable def evCall8 (M : Mode) (call : FuncId → List D → St → ORes) (dcall : D → List D → Option D → St → Option (Option D × St)) (f : FuncId) (args : List D) (A : St) : ORes :=
  match f, args with
  | 91, [a0, a1, a2, a3] => f91 M call dcall a0.canon a1.canon a2.canon a3.canon A
  | 92, [a0] => f92 M call dcall a0.canon A
  | 93, [a0, a1] => f93 M call dcall a0.canon a1.canon A
  | 94, [a0] => f94 M call dcall a0.canon A
  | 95, [a0, a1] => f95 M call dcall a0.canon a1.canon A
  | 96, [a0, a1] => f96 M call dcall a0.canon a1.canon A
  | 97, [a0] => f97 M call dcall a0.canon A
  | 98, [a0] => f98 M call dcall a0.canon A
  | f, args => evCall9 M call dcall f args A
theorem evCall8_le (M : Mode) (call : FuncId → List D → St → ORes) (dcall : D → List D → Option D → St → Option (Option D × St)) (f : FuncId) (args : List D) (A : St) : OLe (evCall8 M call dcall f args A) (bodyK M Tryz.prog rxH kk call dcall f args A) := by
  unfold evCall8
  split
  · exact OLe.of_eq (b91 M call dcall _ _ _ _ A).symm
  · exact OLe.of_eq (b92 M call dcall _ A).symm
  · exact OLe.of_eq (b93 M call dcall _ _ A).symm
  · exact OLe.of_eq (b94 M call dcall _ A).symm
  · exact OLe.of_eq (b95 M call dcall _ _ A).symm
  · exact OLe.of_eq (b96 M call dcall _ _ A).symm
  · exact OLe.of_eq (b97 M call dcall _ A).symm
  · exact OLe.of_eq (b98 M call dcall _ A).symm
  · exact evCall9_le M call dcall _ _ A
noncomputable def evCall7 (M : Mode) (call : FuncId → List D → St → ORes) (dcall : D → List D → Option D → St → Option (Option D × St)) (f : FuncId) (args : List D) (A : St) : ORes :=
  match f, args with
  | 76, [a0, a1, a2] => f76 M call dcall a0.canon a1.canon a2.canon A
  | 77, [a0, a1] => f77 M call dcall a0.canon a1.canon A
  | 78, [a0] => f78 M call dcall a0.canon A
  | 79, [a0] => f79 M call dcall a0.canon A
  | 80, [a0, a1] => f80 M call dcall a0.canon a1.canon A
  | 81, [a0, a1] => f81 M call dcall a0.canon a1.canon A
  | 83, [a0] => f83 M call dcall a0.canon A
  | 84, [a0] => f84 M call dcall a0.canon A
  | f, args => evCall8 M call dcall f args A
theorem evCall7_le (M : Mode) (call : FuncId → List D → St → ORes) (dcall : D → List D → Option D → St → Option (Option D × St)) (f : FuncId) (args : List D) (A : St) : OLe (evCall7 M call dcall f args A) (bodyK M Tryz.prog rxH kk call dcall f args A) := by
  unfold evCall7
  split
  · exact OLe.of_eq (b76 M call dcall _ _ _ A).symm
  · exact OLe.of_eq (b77 M call dcall _ _ A).symm
  · exact OLe.of_eq (b78 M call dcall _ A).symm
  · exact OLe.of_eq (b79 M call dcall _ A).symm
  · exact OLe.of_eq (b80 M call dcall _ _ A).symm
  · exact OLe.of_eq (b81 M call dcall _ _ A).symm
  · exact OLe.of_eq (b83 M call dcall _ A).symm
  · exact OLe.of_eq (b84 M call dcall _ A).symm
  · exact evCall8_le M call dcall _ _ A
noncomputable def evCall6 (M : Mode) (call : FuncId → List D → St → ORes) (dcall : D → List D → Option D → St → Option (Option D × St)) (f : FuncId) (args : List D) (A : St) : ORes :=
  match f, args with
  | 57, [a0, a1] => f57 M call dcall a0.canon a1.canon A
  | 58, [a0] => f58 M call dcall a0.canon A
  | 59, [a0] => f59 M call dcall a0.canon A
  | 60, [a0] => f60 M call dcall a0.canon A
  | 61, [a0] => f61 M call dcall a0.canon A
  | 62, [a0, a1] => f62 M call dcall a0.canon a1.canon A
  | 63, [a0] => f63 M call dcall a0.canon A
  | 64, [a0, a1] => f64 M call dcall a0.canon a1.canon A
  | f, args => evCall7 M call dcall f args A
theorem evCall6_le (M : Mode) (call : FuncId → List D → St → ORes) (dcall : D → List D → Option D → St → Option (Option D × St)) (f : FuncId) (args : List D) (A : St) : OLe (evCall6 M call dcall f args A) (bodyK M Tryz.prog rxH kk call dcall f args A) := by
  unfold evCall6
  split
  · exact OLe.of_eq (b57 M call dcall _ _ A).symm
  · exact OLe.of_eq (b58 M call dcall _ A).symm
  · exact OLe.of_eq (b59 M call dcall _ A).symm
  · exact OLe.of_eq (b60 M call dcall _ A).symm
  · exact OLe.of_eq (b61 M call dcall _ A).symm
  · exact OLe.of_eq (b62 M call dcall _ _ A).symm
  · exact OLe.of_eq (b63 M call dcall _ A).symm
  · exact OLe.of_eq (b64 M call dcall _ _ A).symm
  · exact evCall7_le M call dcall _ _ A
noncomputable def evCall5 (M : Mode) (call : FuncId → List D → St → ORes) (dcall : D → List D → Option D → St → Option (Option D × St)) (f : FuncId) (args : List D) (A : St) : ORes :=
  match f, args with
  | 46, [a0, a1] => f46 M call dcall a0.canon a1.canon A
  | 47, [a0] => f47 M call dcall a0.canon A
  | 50, [a0, a1, a2, a3] => f50 M call dcall a0.canon a1.canon a2.canon a3.canon A
  | 51, [a0, a1] => f51 M call dcall a0.canon a1.canon A
  | 52, [a0] => f52 M call dcall a0.canon A
  | 54, [a0, a1, a2] => f54 M call dcall a0.canon a1.canon a2.canon A
  | 55, [a0] => f55 M call dcall a0.canon A
  | 56, [a0, a1] => f56 M call dcall a0.canon a1.canon A
  | f, args => evCall6 M call dcall f args A
theorem evCall5_le (M : Mode) (call : FuncId → List D → St → ORes) (dcall : D → List D → Option D → St → Option (Option D × St)) (f : FuncId) (args : List D) (A : St) : OLe (evCall5 M call dcall f args A) (bodyK M Tryz.prog rxH kk call dcall f args A) := by
  unfold evCall5
  split
  · exact OLe.of_eq (b46 M call dcall _ _ A).symm
  · exact OLe.of_eq (b47 M call dcall _ A).symm
  · exact OLe.of_eq (b50 M call dcall _ _ _ _ A).symm
  · exact OLe.of_eq (b51 M call dcall _ _ A).symm
  · exact OLe.of_eq (b52 M call dcall _ A).symm
  · exact OLe.of_eq (b54 M call dcall _ _ _ A).symm
  · exact OLe.of_eq (b55 M call dcall _ A).symm
  · exact OLe.of_eq (b56 M call dcall _ _ A).symm
  · exact evCall6_le M call dcall _ _ A
noncomputable def evCall4 (M : Mode) (call : FuncId → List D → St → ORes) (dcall : D → List D → Option D → St → Option (Option D × St)) (f : FuncId) (args : List D) (A : St) : ORes :=
  match f, args with
  | 38, [a0] => f38 M call dcall a0.canon A
  | 39, [a0] => f39 M call dcall a0.canon A
  | 40, [a0] => f40 M call dcall a0.canon A
  | 41, [a0] => f41 M call dcall a0.canon A
  | 42, [a0, a1] => f42 M call dcall a0.canon a1.canon A
  | 43, [a0] => f43 M call dcall a0.canon A
  | 44, [a0, a1] => f44 M call dcall a0.canon a1.canon A
  | 45, [a0, a1] => f45 M call dcall a0.canon a1.canon A
  | f, args => evCall5 M call dcall f args A
theorem evCall4_le (M : Mode) (call : FuncId → List D → St → ORes) (dcall : D → List D → Option D → St → Option (Option D × St)) (f : FuncId) (args : List D) (A : St) : OLe (evCall4 M call dcall f args A) (bodyK M Tryz.prog rxH kk call dcall f args A) := by
  unfold evCall4
  split
  · exact OLe.of_eq (b38 M call dcall _ A).symm
  · exact OLe.of_eq (b39 M call dcall _ A).symm
  · exact OLe.of_eq (b40 M call dcall _ A).symm
  · exact OLe.of_eq (b41 M call dcall _ A).symm
  · exact OLe.of_eq (b42 M call dcall _ _ A).symm
  · exact OLe.of_eq (b43 M call dcall _ A).symm
  · exact OLe.of_eq (b44 M call dcall _ _ A).symm
  · exact OLe.of_eq (b45 M call dcall _ _ A).symm
  · exact evCall5_le M call dcall _ _ A
noncomputable def evCall3 (M : Mode) (call : FuncId → List D → St → ORes) (dcall : D → List D → Option D → St → Option (Option D × St)) (f : FuncId) (args : List D) (A : St) : ORes :=
  match f, args with
  | 28, [a0, a1, a2] => f28 M call dcall a0.canon a1.canon a2.canon A
  | 29, [a0, a1] => f29 M call dcall a0.canon a1.canon A
  | 30, [a0] => f30 M call dcall a0.canon A
  | 31, [a0] => f31 M call dcall a0.canon A
  | 32, [a0, a1] => f32 M call dcall a0.canon a1.canon A
  | 33, [a0, a1] => f33 M call dcall a0.canon a1.canon A
  | 34, [a0, a1] => f34 M call dcall a0.canon a1.canon A
  | 37, [a0, a1] => f37 M call dcall a0.canon a1.canon A
  | f, args => evCall4 M call dcall f args A
theorem evCall3_le (M : Mode) (call : FuncId → List D → St → ORes) (dcall : D → List D → Option D → St → Option (Option D × St)) (f : FuncId) (args : List D) (A : St) : OLe (evCall3 M call dcall f args A) (bodyK M Tryz.prog rxH kk call dcall f args A) := by
  unfold evCall3
  split
  · exact OLe.of_eq (b28 M call dcall _ _ _ A).symm
  · exact OLe.of_eq (b29 M call dcall _ _ A).symm
  · exact OLe.of_eq (b30 M call dcall _ A).symm
  · exact OLe.of_eq (b31 M call dcall _ A).symm
  · exact OLe.of_eq (b32 M call dcall _ _ A).symm
  · exact OLe.of_eq (b33 M call dcall _ _ A).symm
  · exact OLe.of_eq (b34 M call dcall _ _ A).symm
  · exact OLe.of_eq (b37 M call dcall _ _ A).symm
  · exact evCall4_le M call dcall _ _ A
noncomputable def evCall2 (M : Mode) (call : FuncId → List D → St → ORes) (dcall : D → List D → Option D → St → Option (Option D × St)) (f : FuncId) (args : List D) (A : St) : ORes :=
  match f, args with
  | 20, [a0, a1, a2] => f20 M call dcall a0.canon a1.canon a2.canon A
  | 21, [a0] => f21 M call dcall a0.canon A
  | 22, [a0] => f22 M call dcall a0.canon A
  | 23, [a0, a1] => f23 M call dcall a0.canon a1.canon A
  | 24, [a0] => f24 M call dcall a0.canon A
  | 25, [a0, a1] => f25 M call dcall a0.canon a1.canon A
  | 26, [a0, a1] => f26 M call dcall a0.canon a1.canon A
  | 27, [a0] => f27 M call dcall a0.canon A
  | f, args => evCall3 M call dcall f args A
theorem evCall2_le (M : Mode) (call : FuncId → List D → St → ORes) (dcall : D → List D → Option D → St → Option (Option D × St)) (f : FuncId) (args : List D) (A : St) : OLe (evCall2 M call dcall f args A) (bodyK M Tryz.prog rxH kk call dcall f args A) := by
  unfold evCall2
  split
  · exact OLe.of_eq (b20 M call dcall _ _ _ A).symm
  · exact OLe.of_eq (b21 M call dcall _ A).symm
  · exact OLe.of_eq (b22 M call dcall _ A).symm
  · exact OLe.of_eq (b23 M call dcall _ _ A).symm
  · exact OLe.of_eq (b24 M call dcall _ A).symm
  · exact OLe.of_eq (b25 M call dcall _ _ A).symm
  · exact OLe.of_eq (b26 M call dcall _ _ A).symm
  · exact OLe.of_eq (b27 M call dcall _ A).symm
  · exact evCall3_le M call dcall _ _ A
noncomputable def evCall1 (M : Mode) (call : FuncId → List D → St → ORes) (dcall : D → List D → Option D → St → Option (Option D × St)) (f : FuncId) (args : List D) (A : St) : ORes :=
  match f, args with
  | 12, [a0, a1] => f12 M call dcall a0.canon a1.canon A
  | 13, [a0] => f13 M call dcall a0.canon A
  | 14, [a0, a1] => f14 M call dcall a0.canon a1.canon A
  | 15, [a0, a1] => f15 M call dcall a0.canon a1.canon A
  | 16, [a0, a1, a2] => f16 M call dcall a0.canon a1.canon a2.canon A
  | 17, [a0] => f17 M call dcall a0.canon A
  | 18, [a0] => f18 M call dcall a0.canon A
  | 19, [a0, a1] => f19 M call dcall a0.canon a1.canon A
  | f, args => evCall2 M call dcall f args A
theorem evCall1_le (M : Mode) (call : FuncId → List D → St → ORes) (dcall : D → List D → Option D → St → Option (Option D × St)) (f : FuncId) (args : List D) (A : St) : OLe (evCall1 M call dcall f args A) (bodyK M Tryz.prog rxH kk call dcall f args A) := by
  unfold evCall1
  split
  · exact OLe.of_eq (b12 M call dcall _ _ A).symm
  · exact OLe.of_eq (b13 M call dcall _ A).symm
  · exact OLe.of_eq (b14 M call dcall _ _ A).symm
  · exact OLe.of_eq (b15 M call dcall _ _ A).symm
  · exact OLe.of_eq (b16 M call dcall _ _ _ A).symm
  · exact OLe.of_eq (b17 M call dcall _ A).symm
  · exact OLe.of_eq (b18 M call dcall _ A).symm
  · exact OLe.of_eq (b19 M call dcall _ _ A).symm
  · exact evCall2_le M call dcall _ _ A
noncomputable def evCall (M : Mode) (call : FuncId → List D → St → ORes) (dcall : D → List D → Option D → St → Option (Option D × St)) (f : FuncId) (args : List D) (A : St) : ORes :=
  match f, args with
  | 4, [a0] => f4 M call dcall a0.canon A
  | 5, [a0, a1] => f5 M call dcall a0.canon a1.canon A
  | 6, [a0, a1] => f6 M call dcall a0.canon a1.canon A
  | 7, [a0] => f7 M call dcall a0.canon A
  | 8, [a0] => f8 M call dcall a0.canon A
  | 9, [a0, a1] => f9 M call dcall a0.canon a1.canon A
  | 10, [] => f10 M call dcall  A
  | 11, [a0] => f11 M call dcall a0.canon A
  | f, args => evCall1 M call dcall f args A
theorem evCall_le (M : Mode) (call : FuncId → List D → St → ORes) (dcall : D → List D → Option D → St → Option (Option D × St)) (f : FuncId) (args : List D) (A : St) : OLe (evCall M call dcall f args A) (bodyK M Tryz.prog rxH kk call dcall f args A) := by
  unfold evCall
  split
  · exact OLe.of_eq (b4 M call dcall _ A).symm
  · exact OLe.of_eq (b5 M call dcall _ _ A).symm
  · exact OLe.of_eq (b6 M call dcall _ _ A).symm
  · exact OLe.of_eq (b7 M call dcall _ A).symm
  · exact OLe.of_eq (b8 M call dcall _ A).symm
  · exact OLe.of_eq (b9 M call dcall _ _ A).symm
  · exact OLe.of_eq (b10 M call dcall  A).symm
  · exact OLe.of_eq (b11 M call dcall _ A).symm
  · exact evCall1_le M call dcall _ _ A
noncomputable def evD (M : Mode) (call : FuncId → List D → St → ORes) (f : D) (args : List D) (p : Option D) (A : St) : Option (Option D × St) :=
  match f, args, p with
  | .fn (.func 54) [] [a0, a1, a2], [], some p => d54p M call p a0 a1 a2 A
  | .fn (.func 54) [] [a0, a1, a2], [], none => d54n M call a0 a1 a2 A
  | .fn (.func 50) [] [a0, a1, a2, a3], [], some p => d50p M call p a0 a1 a2 a3 A
  | .fn (.func 50) [] [a0, a1, a2, a3], [], none => d50n M call a0 a1 a2 a3 A
  | _, _, _ => none
theorem evD_le (M : Mode) (call : FuncId → List D → St → ORes) (f : D) (args : List D) (p : Option D) (A : St) : OLe (evD M call f args p A) (dcallK M Tryz.prog rxH kk call f args p A) := by
  unfold evD
  split
  · exact OLe.of_eq (bd54p M call _ _ _ _ A).symm
  · exact OLe.of_eq (bd54n M call _ _ _ A).symm
  · exact OLe.of_eq (bd50p M call _ _ _ _ _ A).symm
  · exact OLe.of_eq (bd50n M call _ _ _ _ A).symm
  · exact OLe.none _
noncomputable def ev (m : Nat) : Nat → FuncId → List D → St → ORes
  | 0, _, _, _ => none
  | n + 1, f, args, A => cond (Nat.beq f rOff) (roundB (mN m) Tryz.prog rxH kk (ev m n) args A) (evCall (mN m) (ev m n) (evD (mN m) (ev m n)) f args A)
theorem ev_le (m : Nat) : ∀ (n : Nat) (f : FuncId) (args : List D) (A : St), OLe (ev m n f args A) (Run Tryz.prog rxH f args A)
  | 0, _, _, _ => OLe.none _
  | n + 1, f, args, A => by
    have ih := ev_le m n
    intro r hr
    refine step_le (mN_le m) Tryz.prog rxH kk ih (evD_le (mN m) (ev m n)) f args A r ?_
    unfold ev at hr
    cases hf : Nat.beq f rOff with
    | true =>
      rw [hf] at hr
      unfold bodyK
      rw [hf]
      exact hr
    | false =>
      rw [hf] at hr
      exact evCall_le (mN m) (ev m n) (evD (mN m) (ev m n)) f args A r hr
end Go.Vm.Rx
