/- CodecS17, CodecS18, CodecS19, CodecS20 in one text. -/
import Derived.Test.YtkhcbemdcehkdaaCodecS16
set_option linter.all false
/- The bytes of a result: the codec's writer. -/
namespace Go.Vm.Codec
open Go.Proofs
set_option linter.unusedVariables false
set_option linter.unusedSimpArgs false
set_option maxRecDepth 10000
set_option maxHeartbeats 1000000

def stB (s : Int × Nat) : List UInt8 := be 2 s.1.toNat ++ be 8 s.2
def shB (s : Share) : List UInt8 := be 8 s.c ++ be 4 s.d.length ++ s.d
def stsB (v : Stamps) : List UInt8 := v.flatMap stB
def shsB (l : Shares) : List UInt8 := l.flatMap shB
end Go.Vm.Codec

/- The bytes of a result: the codec's loops. -/
namespace Go.Vm.Codec
open Go.Proofs
set_option linter.unusedVariables false
set_option linter.unusedSimpArgs false
set_option maxRecDepth 10000
set_option maxHeartbeats 1000000

end Go.Vm.Codec

/- The bytes of a result: what the codec's Result comes to. -/
namespace Go.Vm.Codec
open Go.Proofs
set_option linter.unusedVariables false
set_option linter.unusedSimpArgs false
set_option maxRecDepth 10000
set_option maxHeartbeats 1000000

theorem dumpR_zero : ∀ (sh : Shares) (n : Nat), dumpR n sh = 0 → n ≤ 1048576
  | [], n, h => by
    simp only [dumpR, sizeE] at h
    split at h <;> omega
  | s :: r, n, h => by
    simp only [dumpR] at h
    split at h
    · cases h
    · exact dumpR_zero r n h
theorem cntR_zero (all : Shares) : ∀ (sh : Shares) (n : Nat), cntR n all sh = 0 → n ≤ 1048576
  | [], n, h => dumpR_zero all n h
  | s :: r, n, h => by
    simp only [cntR] at h
    split at h
    · cases h
    · exact cntR_zero all r n h
structure Fine (inv node : Int) (v : Stamps) (sh : Shares) : Prop where
  i0 : 0 ≤ inv
  i1 : inv < 64
  n0 : 0 ≤ node
  n1 : node < 16384
  w : vecOk v = true
  l : sh.length ≤ 256
  z : 11 + 10 * v.length + szS sh ≤ 1048576
theorem chk_fine {inv node : Int} {v : Stamps} {sh : Shares} (h : chkE inv node v sh = 0) : Fine inv node v sh := by
  unfold chkE at h
  split at h
  · cases h
  · rename_i h1
    split at h
    · rename_i h2
      split at h
      · cases h
      · rename_i h3
        rw [cntR_eq] at h
        exact ⟨by omega, by omega, by omega, by omega, h2, by omega, cntR_zero _ _ _ h⟩
    · cases h
def resBytes (inv node : Int) (v : Stamps) (l : Shares) : List UInt8 := [82] ++ be 2 inv.toNat ++ be 4 node.toNat ++ be 2 v.length ++ stsB v ++ be 2 l.length ++ shsB l
end Go.Vm.Codec

/- What the codec's Result comes to, where a result may be. -/
namespace Go.Vm.Codec
open Go.Proofs
set_option linter.unusedVariables false
set_option linter.unusedSimpArgs false
set_option maxRecDepth 10000
set_option maxHeartbeats 1000000

end Go.Vm.Codec
