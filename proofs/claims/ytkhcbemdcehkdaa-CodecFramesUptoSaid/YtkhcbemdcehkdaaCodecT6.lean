/- What the codec's ReadResult comes to. -/
import Derived.Test.YtkhcbemdcehkdaaCodecT5
set_option linter.all false
namespace Go.Vm.Codec
open Go.Proofs
set_option linter.unusedVariables false
set_option linter.unusedSimpArgs false
set_option maxRecDepth 10000
set_option maxHeartbeats 4000000
/-- the result of any bytes, or the first fault -/
def pRes (b : List UInt8) : Except (Nat × Int) (Nat × Nat × Stamps × Shares) :=
  if 1048576 < b.length then .error (0, 2)
  else if b[0]? ≠ some 82 then .error (0, 180)
  else if ¬ 3 ≤ b.length then .error (1, 180)
  else if ¬ num ((b.drop 1).take 2) ≤ 63 then .error (1, 180)
  else if ¬ 7 ≤ b.length then .error (3, 180)
  else if ¬ num ((b.drop 3).take 4) ≤ 16383 then .error (3, 180)
  else match pVec b 7 with
    | .error (p, _) => .error (p, 180)
    | .ok (v, j) => match pShs b j with
      | .error (p, _) => .error (p, 180)
      | .ok (sh, j') => if j' < b.length then .error (j', 180) else .ok (num ((b.drop 1).take 2), num ((b.drop 3).take 4), v, sh)
theorem pSt_le (b : List UInt8) : ∀ (m i : Nat) (v : Stamps) (v' : Stamps) (j : Nat), i ≤ b.length → pSt b m i v = .ok (v', j) → j ≤ b.length := by
  intro m
  induction m with
  | zero => intro i v v' j hi h; simp only [pSt, Except.ok.injEq, Prod.mk.injEq] at h; omega
  | succ m ih =>
    intro i v v' j hi h
    unfold pSt at h
    split at h
    · split at h
      · exact ih _ _ _ _ (by assumption) h
      · cases h
    · cases h
theorem pVec_le (b : List UInt8) (i : Nat) (v : Stamps) (j : Nat) (h : pVec b i = .ok (v, j)) : j ≤ b.length := by
  unfold pVec at h
  split at h
  · split at h
    · exact pSt_le b _ _ _ _ _ (by assumption) h
    · cases h
  · cases h
theorem pSh_le (b : List UInt8) : ∀ (m i : Nat) (v : Shares) (v' : Shares) (j : Nat), i ≤ b.length → pSh b m i v = .ok (v', j) → j ≤ b.length := by
  intro m
  induction m with
  | zero => intro i v v' j hi h; simp only [pSh, Except.ok.injEq, Prod.mk.injEq] at h; omega
  | succ m ih =>
    intro i v v' j hi h
    unfold pSh at h
    split at h
    · split at h
      · cases h
      · split at h
        · split at h
          · split at h
            · cases h
            · exact ih _ _ _ _ (by omega) h
          · cases h
        · cases h
    · cases h
theorem pShs_le (b : List UInt8) (i : Nat) (v : Shares) (j : Nat) (h : pShs b i = .ok (v, j)) : j ≤ b.length := by
  unfold pShs at h
  split at h
  · split at h
    · exact pSh_le b _ _ _ _ _ (by assumption) h
    · cases h
  · cases h
end Go.Vm.Codec
