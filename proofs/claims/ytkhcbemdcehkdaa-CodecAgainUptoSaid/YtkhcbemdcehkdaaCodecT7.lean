/- ReadFrame over data, in one; two frames that are the same. -/
import Derived.Test.YtkhcbemdcehkdaaCodecP2
import Derived.Test.YtkhcbemdcehkdaaCodecS8
set_option linter.all false
namespace Go.Vm.Codec
open Go.Proofs
set_option linter.unusedVariables false
set_option linter.unusedSimpArgs false
set_option maxRecDepth 10000
set_option maxHeartbeats 4000000
def Fr.D (x : Fr) (o : Own) : Vm.D := frameD x.k x.f x.t x.s x.a o 1 x.body
def Fr.C (x : Fr) (o : Own) : List Vm.D := [.int .u8 x.k, .int .u32 x.f, .int .u32 x.t, .int .u64 x.s, .int .u64 x.a, .sl o 1 (strBytes x.body)]
def bow (l : List UInt8) : Own := if l.isEmpty then .full else .sh
def frT : Except (Nat × Int) Fr → D
  | .ok x => .tup [x.D (bow x.body), .int .i64 0, .int .i64 0]
  | .error (p, e) => .tup [zeroFD, .int .i64 p, .int .i64 e]
theorem s11 (A : St) (o : Own) (ho : o.shut A.length = o) (b : List UInt8) (hb : b.length ≤ 140737488355328) : Run Try.prog codecH 11 [.sl o 1 (strBytes b)] A = some (.ret (frT (pFr b)), A) := by
  unfold pFr
  by_cases h0 : 0 < b.length
  · by_cases hF : b[0] = 70
    · rw [if_neg (by simp [List.getElem?_eq_getElem h0, hF])]
      by_cases h30 : b.length < 30
      · rw [if_pos h30, s11_short A o b h0 hF h30]; rfl
      · rw [if_neg h30]
        by_cases hn : num ((b.drop 26).take 4) ≤ 65536
        · rw [if_neg (Decidable.not_not.2 hn)]
          by_cases hl : b.length < 30 + num ((b.drop 26).take 4)
          · rw [if_pos hl, s11_less A o ho b (by omega) hF hn hl]; rfl
          · rw [if_neg hl]
            by_cases hm : 30 + num ((b.drop 26).take 4) < b.length
            · rw [if_pos hm, s11_more A o ho b hb (by omega) hF hn hm]; rfl
            · rw [if_neg hm, s11_ok A o ho b (by omega) hF hn (by omega)]
              have hk := num_lt ((b.drop 1).take 1)
              have hk1 : ((b.drop 1).take 1).length = 1 := by rw [List.length_take, List.length_drop]; omega
              rw [hk1] at hk
              have e : (num ((b.drop 1).take 1)).toUInt8.toNat = num ((b.drop 1).take 1) := by
                have : (num ((b.drop 1).take 1)).toUInt8.toNat = num ((b.drop 1).take 1) % 256 := by simp
                omega
              simp only [e]
              rfl
        · rw [if_pos hn, s11_much A o ho b (by omega) (by omega) hF hn]; rfl
    · rw [if_pos (by simp [List.getElem?_eq_getElem h0, hF]), s11_head A o b h0 hF (by omega)]; rfl
  · obtain rfl : b = [] := List.length_eq_zero_iff.1 (by omega)
    rw [if_pos (by simp), s11_empty A o]; rfl
theorem ld0 (A : St) (cs : List D) (T : St) (g : Bool) (n off : Nat) : loadO g n (.ref A.length off) (A ++ (.cells cs :: T)) = ofCells g cs off n := load_ref (by rw [get_app _ _ _ 0 (by omega)]; rfl)
theorem ld1 (A : St) (s0 : Slot) (cs : List D) (T : St) (g : Bool) (n off : Nat) : loadO g n (.ref (A.length + 1) off) (A ++ (s0 :: .cells cs :: T)) = ofCells g cs off n := load_ref (by rw [get_app _ _ _ 1 (by omega)]; rfl)
end Go.Vm.Codec
