/- CodecS21, CodecS22, CodecS23 in one text. -/
import Derived.Test.YtkhcbemdcehkdaaCodecS20
set_option linter.all false
/- The bytes of a result: what the reference's Result comes to. -/
namespace Go.Vm.Codec
open Go.Proofs
set_option linter.unusedVariables false
set_option linter.unusedSimpArgs false
set_option maxRecDepth 10000
set_option maxHeartbeats 1000000

/-- the boxed result, and the room of what is written -/
def tkS (A : St) (r : List D) (n : Nat) : St := A ++ [.cells r, .tok n]
theorem tkS_length (A : St) (r : List D) (n : Nat) : (tkS A r n).length = A.length + 2 := by simp [tkS]
theorem tkS_tok (A : St) (r : List D) (m : Nat) : (tkS A r m)[A.length + 1]? = some (.tok m) := by unfold tkS; rw [get_app _ _ _ 1 (by omega)]; rfl
theorem tkS_set (A : St) (r : List D) (m m' : Nat) : (tkS A r m).set (A.length + 1) (.tok m') = tkS A r m' := by unfold tkS; rw [set_app _ _ 1 _ _ rfl]; rfl
theorem q24 (A : St) (r : List D) (x n : Nat) (L : List UInt8) (hn : n ≤ 8) (hl : L.length + n ≤ 140737488355328) :
    Run Try.prog codecH 24 [.sl (.own (A.length + 1) 0) 1 (strBytes L), .int .u64 x, .int .i64 n] (tkS A r L.length) = some (.ret (.sl (.own (A.length + 1) 0) 1 (strBytes (L ++ be n x))), tkS A r (L ++ be n x).length) := by
  rw [s24 _ x n _ L hn (by rw [tkS_length]; omega) (tkS_tok A r _) hl, tkS_set]
  simp
theorem q2 (A : St) (r : List D) (x : Nat) (L : List UInt8) (hl : L.length + 2 ≤ 140737488355328) :
    Run Try.prog codecH 24 [.sl (.own (A.length + 1) 0) 1 (strBytes L), .int .u64 x, .int .i64 2] (tkS A r L.length) = some (.ret (.sl (.own (A.length + 1) 0) 1 (strBytes (L ++ be 2 x))), tkS A r (L ++ be 2 x).length) := q24 A r x 2 L (by omega) hl
theorem q4 (A : St) (r : List D) (x : Nat) (L : List UInt8) (hl : L.length + 4 ≤ 140737488355328) :
    Run Try.prog codecH 24 [.sl (.own (A.length + 1) 0) 1 (strBytes L), .int .u64 x, .int .i64 4] (tkS A r L.length) = some (.ret (.sl (.own (A.length + 1) 0) 1 (strBytes (L ++ be 4 x))), tkS A r (L ++ be 4 x).length) := q24 A r x 4 L (by omega) hl
theorem q8 (A : St) (r : List D) (x : Nat) (L : List UInt8) (hl : L.length + 8 ≤ 140737488355328) :
    Run Try.prog codecH 24 [.sl (.own (A.length + 1) 0) 1 (strBytes L), .int .u64 x, .int .i64 8] (tkS A r L.length) = some (.ret (.sl (.own (A.length + 1) 0) 1 (strBytes (L ++ be 8 x))), tkS A r (L ++ be 8 x).length) := q24 A r x 8 L (by omega) hl
end Go.Vm.Codec

/- The bytes of a result: what the reference's Result comes to, whole. -/
namespace Go.Vm.Codec
open Go.Proofs
set_option linter.unusedVariables false
set_option linter.unusedSimpArgs false
set_option maxRecDepth 10000
set_option maxHeartbeats 1000000

end Go.Vm.Codec

/- The law CodecResults, over data: it is true. -/
namespace Go.Vm.Codec
open Go.Proofs
set_option linter.unusedVariables false
set_option linter.unusedSimpArgs false
set_option maxRecDepth 10000
set_option maxHeartbeats 4000000

theorem sameAd_self (d : D) (A : St) : sameAd d A A ↔ True := by
  refine iff_true_intro ?_
  unfold sameAd
  split <;> trivial
structure RRes.Small (r : RRes) : Prop where
  v : r.v.length ≤ 9223372036854775807
  s : r.sh.length ≤ 9223372036854775807
  d : ∀ s ∈ r.sh, s.d.length ≤ 9223372036854775807
  z : 11 + 10 * r.v.length + szS r.sh ≤ 9223372036854775807
  u : ∀ s ∈ r.sh, s.c < 18446744073709551616
  w : ∀ s ∈ r.v, s.2 < 18446744073709551616
end Go.Vm.Codec
