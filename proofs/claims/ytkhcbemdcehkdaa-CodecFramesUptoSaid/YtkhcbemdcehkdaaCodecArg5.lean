/- What a frame among the arguments stands for. -/
import Derived.Test.YtkhcbemdcehkdaaCodecArg4
import Derived.Test.YtkhcbemdcehkdaaCodecT9
set_option linter.all false
namespace Go.Vm.Codec
open Go Go.Proofs Go.Proofs.Ytkhcbemdcehkdaa
set_option linter.unusedVariables false
set_option maxRecDepth 100000
variable {H : Type} {enc : TypeId × Value → H} {w : World} {spare : Nat → Bool} {held : Bool}

theorem u8_nat {n : Int} (h : (Lit.int .u8 n).wf = true) : ∃ u : Nat, n = u ∧ u < 256 := by
  have hx : 0 ≤ n ∧ n ≤ 255 := by simpa [Lit.wf, IntKind.min, IntKind.max, IntKind.signed, IntKind.bits] using h
  exact ⟨n.toNat, by omega, by omega⟩
theorem u32_nat {n : Int} (h : (Lit.int .u32 n).wf = true) : ∃ u : Nat, n = u ∧ u < 4294967296 := by
  have hx : 0 ≤ n ∧ n ≤ 4294967295 := by simpa [Lit.wf, IntKind.min, IntKind.max, IntKind.signed, IntKind.bits] using h
  exact ⟨n.toNat, by omega, by omega⟩
theorem six_cells {cs : List Value} (h : cs.length = 6) : ∃ a b c d e f, cs = [a, b, c, d, e, f] := by
  match cs, h with
  | [a, b, c, d, e, f], _ => exact ⟨a, b, c, d, e, f, rfl⟩
theorem arg_frame {fuel : Nat} {cs : List Value} {x : DataW H × List MemPlace} (h : DataW.trod enc Try.prog w 0 spare held fuel 27 cs = some x) (hk : Rows.uptoBulk x.1 ≤ 1048576) :
    ∃ r : Fr, r.Ok ∧ r.body.length ≤ 1048576 ∧ RepL (g0 w) w (r.C .sh) cs := by
  obtain ⟨hl, fu', xs, hxl, hxa, hf⟩ := trod_struct Try.underlying27 h
  have c27 : Try.prog.cellsOf 27 = 6 := by kernel_rfl
  rw [c27] at hl
  obtain ⟨a, b, c, d, e, f, rfl⟩ := six_cells hl
  obtain ⟨y0, _, t0⟩ := hf 0 _ rfl
  obtain ⟨y1, _, t1⟩ := hf 1 _ rfl
  obtain ⟨y2, _, t2⟩ := hf 2 _ rfl
  obtain ⟨y3, _, t3⟩ := hf 3 _ rfl
  obtain ⟨y4, _, t4⟩ := hf 4 _ rfl
  obtain ⟨y5, g5, t5⟩ := hf 5 _ rfl
  have c22 : Try.prog.cellsOf 22 = 1 := by kernel_rfl
  have c23 : Try.prog.cellsOf 23 = 1 := by kernel_rfl
  have c24 : Try.prog.cellsOf 24 = 1 := by kernel_rfl
  have c25 : Try.prog.cellsOf 25 = 1 := by kernel_rfl
  have k22 : Try.prog.underlying 22 = some (.int .u8) := by kernel_rfl
  have k23 : Try.prog.underlying 23 = some (.int .u32) := by kernel_rfl
  have k24 : Try.prog.underlying 24 = some (.int .u64) := by kernel_rfl
  simp only [c22, c23, c24, c25] at t0 t1 t2 t3 t4 t5
  obtain ⟨n0, e0, w0, _⟩ := trod_int k22 t0
  obtain ⟨n1, e1, w1, _⟩ := trod_int k23 t1
  obtain ⟨n2, e2, w2, _⟩ := trod_int k23 t2
  obtain ⟨n3, e3, w3, _⟩ := trod_int k24 t3
  obtain ⟨n4, e4, w4, _⟩ := trod_int k24 t4
  obtain ⟨s, v5, e5, r5, b5⟩ := arg_bytes t5
  simp only [List.drop_zero, List.take_succ_cons, List.take_zero, List.drop_succ_cons, List.cons.injEq, and_true] at e0 e1 e2 e3 e4 e5
  subst e0 e1 e2 e3 e4 e5
  obtain ⟨m0, rfl, u0⟩ := u8_nat w0
  obtain ⟨m1, rfl, u1⟩ := u32_nat w1
  obtain ⟨m2, rfl, u2⟩ := u32_nat w2
  obtain ⟨m3, rfl, u3⟩ := u64_nat w3
  obtain ⟨m4, rfl, u4⟩ := u64_nat w4
  have hb : Rows.uptoBulk y5.1 ≤ 1048576 := by
    rw [hxa] at hk
    match xs, hxl, g5 with
    | [z0, z1, z2, z3, z4, z5], _, q5 =>
      simp only [List.getElem?_cons_succ, List.getElem?_cons_zero, Option.some.injEq] at q5
      subst q5
      simp only [List.map_cons, List.map_nil, Rows.uptoBulk, Rows.uptoBulkAll] at hk
      omega
  refine ⟨⟨m0, m1, m2, m3, m4, s⟩, ⟨u0, u1, u2, u3, u4⟩, by show s.length ≤ _; omega, ?_⟩
  unfold Fr.C RepL
  refine ⟨_, _, rfl, by unfold Rep; rfl, ?_⟩
  unfold RepL
  refine ⟨_, _, rfl, by unfold Rep; rfl, ?_⟩
  unfold RepL
  refine ⟨_, _, rfl, by unfold Rep; rfl, ?_⟩
  unfold RepL
  refine ⟨_, _, rfl, by unfold Rep; rfl, ?_⟩
  unfold RepL
  refine ⟨_, _, rfl, by unfold Rep; rfl, ?_⟩
  unfold RepL
  refine ⟨_, _, rfl, r5, ?_⟩
  unfold RepL
  rfl
end Go.Vm.Codec
