/- CodecArg, CodecArg2, CodecArg3, CodecArg4 in one text. -/
import Derived.Test.YtkhcbemdcehkdaaVmArg2
import Derived.Test.YtkhcbemdcehkdaaCodecS23
import Derived.KernelRfl
import Derived.Test.YtkhcbemdcehkdaaRows
set_option linter.all false
/- What the arguments of the codec's laws stand for. -/
namespace Go.Vm.Codec
open Go Go.Proofs Go.Proofs.Ytkhcbemdcehkdaa
set_option linter.unusedVariables false
set_option maxRecDepth 100000
variable {H : Type} {enc : TypeId × Value → H} {w : World} {spare : Nat → Bool} {held : Bool}

theorem bulk_len : ∀ (els : List (DataW H)), els.length ≤ Rows.uptoBulkAll els
  | [] => Nat.le_refl _
  | d :: r => by
    have := bulk_len r
    have h1 : 1 ≤ Rows.uptoBulk d := by
      unfold Rows.uptoBulk
      split <;> omega
    unfold Rows.uptoBulkAll
    simp only [List.length_cons]
    omega
theorem u8_byte {n : Int} (h : (Lit.int .u8 n).wf = true) : ∃ b : UInt8, (b.toNat : Int) = n := by
  have hx : 0 ≤ n ∧ n ≤ 255 := by simpa [Lit.wf, IntKind.min, IntKind.max, IntKind.signed, IntKind.bits] using h
  refine ⟨n.toNat.toUInt8, ?_⟩
  simp
  omega
theorem int_rep (k : IntKind) (n : Int) : VC 1 (.int k n) ∧ (Value.int k n).cells.toList = [.int k n] ∧ Rep (g0 w) w (.int k n) (.int k n) := by
  refine ⟨⟨rfl, fun u hu => ?_⟩, rfl, by unfold Rep; rfl⟩
  have : u = .int k n := by simpa [Value.cells] using hu
  subst this
  rfl
theorem bytes_of {ds : List D} (h : ∀ (i : Nat) d, ds[i]? = some d → ∃ b : UInt8, d = .int .u8 (b.toNat : Int)) : ∃ s : List UInt8, ds = strBytes s := by
  induction ds with
  | nil => exact ⟨[], rfl⟩
  | cons d ds ih =>
    obtain ⟨b, hb⟩ := h 0 d rfl
    obtain ⟨s, hs⟩ := ih fun i d hi => h (i + 1) d (by simpa using hi)
    exact ⟨b :: s, by rw [hb, hs]; rfl⟩
theorem arg_bytes {fuel : Nat} {cs : List Value} {x : DataW H × List MemPlace} (h : DataW.trod enc Try.prog w 0 spare held fuel 25 cs = some x) :
    ∃ (s : List UInt8) (v : Value), cs = [v] ∧ Rep (g0 w) w (.sl .sh 1 (strBytes s)) v ∧ s.length + 1 ≤ Rows.uptoBulk x.1 := by
  obtain ⟨ds, v, h1, h2, h3, h4⟩ := slice_rep Try.underlying25 (n := 1) (by kernel_rfl) (by omega) h (fun d y => ∃ b : UInt8, d = .int .u8 (b.toNat : Int)) (by
    intro fu cells y hl hy
    obtain ⟨n, rfl, hwf, _⟩ := trod_int Try.underlying5 hy
    obtain ⟨b, hb⟩ := u8_byte hwf
    obtain ⟨q1, q2, q3⟩ := int_rep (w := w) .u8 n
    exact ⟨_, _, q2, q1, q3, b, by rw [hb]⟩)
  obtain ⟨s, rfl⟩ := bytes_of (ds := ds) (by
    rcases h4 with ⟨_, rfl⟩ | ⟨els, rest, _, _, h5⟩
    · intro i d hi; simp at hi
    · intro i d hi
      obtain ⟨y, _, hq⟩ := h5 i d hi
      exact hq)
  refine ⟨s, v, h1, h2, ?_⟩
  rcases h4 with ⟨hx, hds⟩ | ⟨els, rest, hx, hl, _⟩
  · rw [hx]
    have : s = [] := by
      have := congrArg List.length hds
      simpa using this
    subst this
    simp [Rows.uptoBulk]
  · rw [hx]
    have := bulk_len els
    rw [qaa] at hl
    unfold Rows.uptoBulk
    omega
end Go.Vm.Codec

/- What a vector among the arguments stands for. -/
namespace Go.Vm.Codec
open Go Go.Proofs Go.Proofs.Ytkhcbemdcehkdaa
set_option linter.unusedVariables false
set_option maxRecDepth 100000
variable {H : Type} {enc : TypeId × Value → H} {w : World} {spare : Nat → Bool} {held : Bool}

end Go.Vm.Codec

/- What shares among the arguments stand for. -/
namespace Go.Vm.Codec
open Go Go.Proofs Go.Proofs.Ytkhcbemdcehkdaa
set_option linter.unusedVariables false
set_option maxRecDepth 100000
variable {H : Type} {enc : TypeId × Value → H} {w : World} {spare : Nat → Bool} {held : Bool}

end Go.Vm.Codec

/- What a result among the arguments stands for. -/
namespace Go.Vm.Codec
open Go Go.Proofs Go.Proofs.Ytkhcbemdcehkdaa
set_option linter.unusedVariables false
set_option maxRecDepth 100000
variable {H : Type} {enc : TypeId × Value → H} {w : World} {spare : Nat → Bool} {held : Bool}

end Go.Vm.Codec
