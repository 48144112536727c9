/- CodecArg, CodecArg2, CodecArg3, CodecArg4 in one text. -/
import Derived.Test.YtkhcbemdcehkdaaVmArg2
import Derived.Test.YtkhcbemdcehkdaaCodecS23
import Derived.KernelRfl
import Derived.Test.YtkhcbemdcehkdaaRows
set_option linter.all false
/- What the arguments of the codec's laws stand for. -/
namespace Go.Vm.Codec
open Go Go.Proofs Go.Proofs.Ytkhcbemdcehkdaa
set_option linter.unusedVariables false
set_option maxRecDepth 100000
variable {H : Type} {enc : TypeId × Value → H} {w : World} {spare : Nat → Bool} {held : Bool}

theorem bulk_len : ∀ (els : List (DataW H)), els.length ≤ Rows.uptoBulkAll els
  | [] => Nat.le_refl _
  | d :: r => by
    have := bulk_len r
    have h1 : 1 ≤ Rows.uptoBulk d := by
      unfold Rows.uptoBulk
      split <;> omega
    unfold Rows.uptoBulkAll
    simp only [List.length_cons]
    omega
theorem u8_byte {n : Int} (h : (Lit.int .u8 n).wf = true) : ∃ b : UInt8, (b.toNat : Int) = n := by
  have hx : 0 ≤ n ∧ n ≤ 255 := by simpa [Lit.wf, IntKind.min, IntKind.max, IntKind.signed, IntKind.bits] using h
  refine ⟨n.toNat.toUInt8, ?_⟩
  simp
  omega
theorem int_rep (k : IntKind) (n : Int) : VC 1 (.int k n) ∧ (Value.int k n).cells.toList = [.int k n] ∧ Rep (g0 w) w (.int k n) (.int k n) := by
  refine ⟨⟨rfl, fun u hu => ?_⟩, rfl, by unfold Rep; rfl⟩
  have : u = .int k n := by simpa [Value.cells] using hu
  subst this
  rfl
theorem bytes_of {ds : List D} (h : ∀ (i : Nat) d, ds[i]? = some d → ∃ b : UInt8, d = .int .u8 (b.toNat : Int)) : ∃ s : List UInt8, ds = strBytes s := by
  induction ds with
  | nil => exact ⟨[], rfl⟩
  | cons d ds ih =>
    obtain ⟨b, hb⟩ := h 0 d rfl
    obtain ⟨s, hs⟩ := ih fun i d hi => h (i + 1) d (by simpa using hi)
    exact ⟨b :: s, by rw [hb, hs]; rfl⟩
theorem arg_bytes {fuel : Nat} {cs : List Value} {x : DataW H × List MemPlace} (h : DataW.trod enc Try.prog w 0 spare held fuel 25 cs = some x) :
    ∃ (s : List UInt8) (v : Value), cs = [v] ∧ Rep (g0 w) w (.sl .sh 1 (strBytes s)) v ∧ s.length + 1 ≤ Rows.uptoBulk x.1 := by
  obtain ⟨ds, v, h1, h2, h3, h4⟩ := slice_rep Try.underlying25 (n := 1) (by kernel_rfl) (by omega) h (fun d y => ∃ b : UInt8, d = .int .u8 (b.toNat : Int)) (by
    intro fu cells y hl hy
    obtain ⟨n, rfl, hwf, _⟩ := trod_int Try.underlying5 hy
    obtain ⟨b, hb⟩ := u8_byte hwf
    obtain ⟨q1, q2, q3⟩ := int_rep (w := w) .u8 n
    exact ⟨_, _, q2, q1, q3, b, by rw [hb]⟩)
  obtain ⟨s, rfl⟩ := bytes_of (ds := ds) (by
    rcases h4 with ⟨_, rfl⟩ | ⟨els, rest, _, _, h5⟩
    · intro i d hi; simp at hi
    · intro i d hi
      obtain ⟨y, _, hq⟩ := h5 i d hi
      exact hq)
  refine ⟨s, v, h1, h2, ?_⟩
  rcases h4 with ⟨hx, hds⟩ | ⟨els, rest, hx, hl, _⟩
  · rw [hx]
    have : s = [] := by
      have := congrArg List.length hds
      simpa using this
    subst this
    simp [Rows.uptoBulk]
  · rw [hx]
    have := bulk_len els
    rw [qaa] at hl
    unfold Rows.uptoBulk
    omega
end Go.Vm.Codec

/- What a vector among the arguments stands for. -/
namespace Go.Vm.Codec
open Go Go.Proofs Go.Proofs.Ytkhcbemdcehkdaa
set_option linter.unusedVariables false
set_option maxRecDepth 100000
variable {H : Type} {enc : TypeId × Value → H} {w : World} {spare : Nat → Bool} {held : Bool}

theorem u64_nat {n : Int} (h : (Lit.int .u64 n).wf = true) : ∃ b : Nat, (b : Int) = n ∧ b < 18446744073709551616 := by
  have hx : 0 ≤ n ∧ n ≤ 18446744073709551615 := by simpa [Lit.wf, IntKind.min, IntKind.max, IntKind.signed, IntKind.bits] using h
  exact ⟨n.toNat, by omega, by omega⟩
theorem two_cells {cs : List Value} (h : cs.length = 2) : ∃ a b, cs = [a, b] := by
  match cs, h with
  | [a, b], _ => exact ⟨a, b, rfl⟩
theorem stamps_of {ds : List D} (h : ∀ (i : Nat) d, ds[i]? = some d → ∃ s : Int × Nat, d = stD s ∧ s.2 < 18446744073709551616) : ∃ v : Stamps, ds = stampsD v ∧ ∀ s ∈ v, s.2 < 18446744073709551616 := by
  induction ds with
  | nil => exact ⟨[], rfl, fun s hs => by cases hs⟩
  | cons d ds ih =>
    obtain ⟨b, hb, hb2⟩ := h 0 d rfl
    obtain ⟨s, hs, hs2⟩ := ih fun i d hi => h (i + 1) d (by simpa using hi)
    refine ⟨b :: s, by rw [hb, hs]; rfl, fun t ht => ?_⟩
    rcases List.mem_cons.1 ht with rfl | ht
    · exact hb2
    · exact hs2 t ht
theorem arg_stamps {fuel : Nat} {cs : List Value} {x : DataW H × List MemPlace} (h : DataW.trod enc Try.prog w 0 spare held fuel 37 cs = some x) :
    ∃ (s : Stamps) (v : Value), cs = [v] ∧ Rep (g0 w) w (.sl .sh 2 (stampsD s)) v ∧ s.length + 1 ≤ Rows.uptoBulk x.1 ∧ ∀ t ∈ s, t.2 < 18446744073709551616 := by
  obtain ⟨ds, v, h1, h2, h3, h4⟩ := slice_rep Try.underlying37 (n := 2) (by kernel_rfl) (by omega) h (fun d y => ∃ s : Int × Nat, d = stD s ∧ s.2 < 18446744073709551616) (by
    intro fu cells y hl hy
    obtain ⟨a, b, rfl⟩ := two_cells hl
    obtain ⟨_, fu', xs, hxl, _, hf⟩ := trod_struct Try.underlying77 hy
    obtain ⟨y0, _, t0⟩ := hf 0 _ rfl
    obtain ⟨y1, _, t1⟩ := hf 1 _ rfl
    have c3 : Try.prog.cellsOf 3 = 1 := by kernel_rfl
    have c24 : Try.prog.cellsOf 24 = 1 := by kernel_rfl
    simp only [c3, c24] at t0 t1
    obtain ⟨n, e0, _, _⟩ := trod_int Try.underlying3 t0
    obtain ⟨m, e1, wf1, _⟩ := trod_int Try.underlying24 t1
    simp only [List.drop_zero, List.take_succ_cons, List.take_zero, List.drop_succ_cons, List.cons.injEq, and_true] at e0 e1
    subst e0 e1
    obtain ⟨u, hu, hu2⟩ := u64_nat wf1
    subst hu
    refine ⟨stD (n, u), .agg #[.int .i64 n, .int .u64 u], rfl, ⟨rfl, fun z hz => ?_⟩, ?_, (n, u), rfl, hu2⟩
    · have : z = .int .i64 n ∨ z = .int .u64 u := by simpa [Value.cells] using hz
      rcases this with rfl | rfl <;> rfl
    · unfold stD Rep
      refine ⟨_, rfl, ?_⟩
      unfold RepL
      refine ⟨_, _, rfl, by unfold Rep; rfl, ?_⟩
      unfold RepL
      refine ⟨_, _, rfl, by unfold Rep; rfl, ?_⟩
      unfold RepL
      rfl)
  obtain ⟨s, rfl, hs⟩ := stamps_of (ds := ds) (by
    rcases h4 with ⟨_, rfl⟩ | ⟨els, rest, _, _, h5⟩
    · intro i d hi; simp at hi
    · intro i d hi
      obtain ⟨y, _, hq⟩ := h5 i d hi
      exact hq)
  refine ⟨s, v, h1, h2, ?_, hs⟩
  rcases h4 with ⟨hx, hds⟩ | ⟨els, rest, hx, hl, _⟩
  · rw [hx]
    have : s = [] := by
      have := congrArg List.length hds
      simpa using this
    subst this
    simp [Rows.uptoBulk]
  · rw [hx]
    have := bulk_len els
    rw [qea] at hl
    unfold Rows.uptoBulk
    omega
end Go.Vm.Codec

/- What shares among the arguments stand for. -/
namespace Go.Vm.Codec
open Go Go.Proofs Go.Proofs.Ytkhcbemdcehkdaa
set_option linter.unusedVariables false
set_option maxRecDepth 100000
variable {H : Type} {enc : TypeId × Value → H} {w : World} {spare : Nat → Bool} {held : Bool}

theorem shares_of {ds : List D} (els : List (DataW H)) : ds.length = els.length → (∀ (i : Nat) d, ds[i]? = some d → ∃ y, els[i]? = some y ∧ ∃ s : Share, d = shD s ∧ s.c < 18446744073709551616 ∧ s.d.length + 1 ≤ Rows.uptoBulk y) →
    ∃ l : Shares, ds = sharesD l ∧ (∀ s ∈ l, s.c < 18446744073709551616 ∧ s.d.length ≤ Rows.uptoBulkAll els) ∧ szS l ≤ 12 * Rows.uptoBulkAll els := by
  induction ds generalizing els with
  | nil => exact fun _ _ => ⟨[], rfl, (fun s hs => by cases hs), by simp [szS]⟩
  | cons d ds ih =>
    intro hl h
    cases els with
    | nil => simp at hl
    | cons e els =>
      obtain ⟨y, hy, s, hs, hc, hb⟩ := h 0 d rfl
      simp only [List.getElem?_cons_zero, Option.some.injEq] at hy
      subst hy
      obtain ⟨l, hl1, hl2, hl3⟩ := ih els (by simpa using hl) fun i d hi => by
        obtain ⟨y, hy, q⟩ := h (i + 1) d (by simpa using hi)
        exact ⟨y, by simpa using hy, q⟩
      refine ⟨s :: l, by rw [hs, hl1]; rfl, fun t ht => ?_, ?_⟩
      · unfold Rows.uptoBulkAll
        rcases List.mem_cons.1 ht with rfl | ht
        · exact ⟨hc, by omega⟩
        · have := hl2 t ht
          exact ⟨this.1, by omega⟩
      · unfold Rows.uptoBulkAll szS
        omega
theorem arg_shares {fuel : Nat} {cs : List Value} {x : DataW H × List MemPlace} (h : DataW.trod enc Try.prog w 0 spare held fuel 38 cs = some x) :
    ∃ (l : Shares) (v : Value), cs = [v] ∧ Rep (g0 w) w (.sl .sh 2 (sharesD l)) v ∧ l.length ≤ Rows.uptoBulk x.1 ∧ szS l ≤ 12 * Rows.uptoBulk x.1 ∧ ∀ s ∈ l, s.c < 18446744073709551616 ∧ s.d.length ≤ Rows.uptoBulk x.1 := by
  obtain ⟨ds, v, h1, h2, h3, h4⟩ := slice_rep Try.underlying38 (n := 2) (by kernel_rfl) (by omega) h (fun d y => ∃ s : Share, d = shD s ∧ s.c < 18446744073709551616 ∧ s.d.length + 1 ≤ Rows.uptoBulk y) (by
    intro fu cells y hl hy
    obtain ⟨a, b, rfl⟩ := two_cells hl
    obtain ⟨_, fu', xs, hxl, hxa, hf⟩ := trod_struct Try.underlying81 hy
    obtain ⟨y0, g0', t0⟩ := hf 0 _ rfl
    obtain ⟨y1, g1', t1⟩ := hf 1 _ rfl
    have c3 : Try.prog.cellsOf 79 = 1 := by kernel_rfl
    have c24 : Try.prog.cellsOf 25 = 1 := by kernel_rfl
    simp only [c3, c24] at t0 t1
    have u79 : Try.prog.underlying 79 = some (.int .u64) := by kernel_rfl
    obtain ⟨n, e0, wf0, _⟩ := trod_int u79 t0
    obtain ⟨s, v1, e1, r1, b1⟩ := arg_bytes t1
    simp only [List.drop_zero, List.take_succ_cons, List.take_zero, List.drop_succ_cons, List.cons.injEq, and_true] at e0 e1
    subst e0 e1
    obtain ⟨u, hu, hu2⟩ := u64_nat wf0
    subst hu
    have hone : b.oneCell' = true ∧ b.cells = #[b] := by
      unfold Rep at r1
      obtain ⟨a', cap, rfl, _⟩ := r1
      exact ⟨rfl, rfl⟩
    refine ⟨shD ⟨u, false, s⟩, .agg #[.int .u64 u, b], rfl, ⟨rfl, fun z hz => ?_⟩, ?_, ⟨u, false, s⟩, rfl, hu2, ?_⟩
    · have : z = .int .u64 u ∨ z = b := by simpa [Value.cells] using hz
      rcases this with rfl | rfl
      · rfl
      · exact hone.1
    · unfold shD Rep
      refine ⟨_, rfl, ?_⟩
      unfold RepL
      refine ⟨_, _, rfl, by unfold Rep; rfl, ?_⟩
      unfold RepL
      refine ⟨_, _, rfl, r1, ?_⟩
      unfold RepL
      rfl
    · rw [hxa]
      match xs, hxl, g1' with
      | [z0, z1], _, g =>
        simp only [List.getElem?_cons_succ, List.getElem?_cons_zero, Option.some.injEq] at g
        subst g
        simp only [List.map_cons, List.map_nil, Rows.uptoBulk, Rows.uptoBulkAll]
        show s.length + 1 ≤ _
        omega)
  rcases h4 with ⟨hx, rfl⟩ | ⟨els, rest, hx, hl, h5⟩
  · exact ⟨[], v, h1, h2, by simp, by simp [szS], (fun s hs => by cases hs)⟩
  · obtain ⟨l, rfl, q1, q2⟩ := shares_of els hl.symm h5
    have hb : Rows.uptoBulkAll els ≤ Rows.uptoBulk x.1 := by rw [hx]; unfold Rows.uptoBulk; omega
    have hb2 := bulk_len els
    rw [qeb] at hl
    exact ⟨l, v, h1, h2, by omega, by omega, fun s hs => ⟨(q1 s hs).1, by have := (q1 s hs).2; omega⟩⟩
end Go.Vm.Codec

/- What a result among the arguments stands for. -/
namespace Go.Vm.Codec
open Go Go.Proofs Go.Proofs.Ytkhcbemdcehkdaa
set_option linter.unusedVariables false
set_option maxRecDepth 100000
variable {H : Type} {enc : TypeId × Value → H} {w : World} {spare : Nat → Bool} {held : Bool}

theorem four_cells {cs : List Value} (h : cs.length = 4) : ∃ a b c d, cs = [a, b, c, d] := by
  match cs, h with
  | [a, b, c, d], _ => exact ⟨a, b, c, d, rfl⟩
theorem arg_result {fuel : Nat} {cs : List Value} {x : DataW H × List MemPlace} (h : DataW.trod enc Try.prog w 0 spare held fuel 40 cs = some x) (hk : Rows.uptoBulk x.1 ≤ 1048576) :
    ∃ r : RRes, r.Small ∧ RepL (g0 w) w r.C cs := by
  obtain ⟨hl, fu', xs, hxl, hxa, hf⟩ := trod_struct Try.underlying40 h
  have c40 : Try.prog.cellsOf 40 = 4 := by kernel_rfl
  rw [c40] at hl
  obtain ⟨a, b, c, d, rfl⟩ := four_cells hl
  obtain ⟨y0, _, t0⟩ := hf 0 _ rfl
  obtain ⟨y1, _, t1⟩ := hf 1 _ rfl
  obtain ⟨y2, g2, t2⟩ := hf 2 _ rfl
  obtain ⟨y3, g3, t3⟩ := hf 3 _ rfl
  have c3 : Try.prog.cellsOf 3 = 1 := by kernel_rfl
  have c37 : Try.prog.cellsOf 37 = 1 := by kernel_rfl
  have c38 : Try.prog.cellsOf 38 = 1 := by kernel_rfl
  simp only [c3, c37, c38] at t0 t1 t2 t3
  obtain ⟨i, e0, _, _⟩ := trod_int Try.underlying3 t0
  obtain ⟨n, e1, _, _⟩ := trod_int Try.underlying3 t1
  obtain ⟨v, v2, e2, r2, b2, u2⟩ := arg_stamps t2
  obtain ⟨l, v3, e3, r3, b3, z3, u3⟩ := arg_shares t3
  simp only [List.drop_zero, List.take_succ_cons, List.take_zero, List.drop_succ_cons, List.cons.injEq, and_true] at e0 e1 e2 e3
  subst e0 e1 e2 e3
  have hb : Rows.uptoBulk y2.1 ≤ 1048576 ∧ Rows.uptoBulk y3.1 ≤ 1048576 := by
    rw [hxa] at hk
    match xs, hxl, g2, g3 with
    | [z0, z1, z2, z3], _, q2, q3 =>
      simp only [List.getElem?_cons_succ, List.getElem?_cons_zero, Option.some.injEq] at q2 q3
      subst q2 q3
      simp only [List.map_cons, List.map_nil, Rows.uptoBulk, Rows.uptoBulkAll] at hk
      constructor <;> omega
  refine ⟨⟨i, n, .sh, v, .sh, l⟩, ⟨?_, ?_, fun s hs => ?_, ?_, fun s hs => (u3 s hs).1, u2⟩, ?_⟩
  · show v.length ≤ _; omega
  · show l.length ≤ _; omega
  · have := (u3 s hs).2; omega
  · show 11 + 10 * v.length + szS l ≤ _; omega
  · unfold RRes.C RepL
    refine ⟨_, _, rfl, by unfold Rep; rfl, ?_⟩
    unfold RepL
    refine ⟨_, _, rfl, by unfold Rep; rfl, ?_⟩
    unfold RepL
    refine ⟨_, _, rfl, r2, ?_⟩
    unfold RepL
    refine ⟨_, _, rfl, r3, ?_⟩
    unfold RepL
    rfl
end Go.Vm.Codec
