/- What the codec's ReadFrame comes to. -/
import Derived.Test.YtkhcbemdcehkdaaCodecS5
set_option linter.all false
namespace Go.Vm.Codec
open Go.Proofs
set_option linter.unusedVariables false
set_option linter.unusedSimpArgs false
set_option maxRecDepth 10000
set_option maxHeartbeats 2000000

theorem s30 (o : Own) (l : List UInt8) (A : St) (hl : l.length ≤ 140737488355328) : Run Try.prog codecH 30 [.sl o 1 (strBytes l)] A = some (.ret (.sl (if l.isEmpty then .full else .sh) 1 (strBytes l)), A) := by
  rw [Run_eqK (J := k30)]
  have e : codecH.ext 30 = some cloneX := rfl
  unfold bodyK
  rw [e]
  have : roomOk l.length 1 = true := by simp [roomOk]; omega
  unfold cloneX
  simp [esOk, this]
  cases l <;> rfl
theorem shut_mono {o : Own} {n m : Nat} (h : o.shut n = o) (hm : n ≤ m) : o.shut m = o := by
  cases o with
  | sh => rfl
  | full => rfl
  | own c s =>
    simp only [Own.shut] at h ⊢
    split at h
    · rw [if_pos (by omega)]
    · cases h
/-- the results, and a reader at a place of the bytes -/
def RFa (A : St) (fc : List D) (o : Own) (b : List UInt8) (i : Nat) : St := rd (lay A fc 0 0 [.dead]) (A.length + 3) (o.adv i) (b.drop i) i
theorem RFa_lay (A : St) (fc : List D) (o : Own) (b : List UInt8) (i : Nat) : RFa A fc o b i = lay A fc 0 0 [.cells [.sl (o.adv i) 1 (strBytes (b.drop i)), .int .i64 i]] := by
  unfold RFa rd lay
  rw [set_app _ _ 3 _ _ rfl]; rfl
theorem RFa_one (A : St) (fc : List D) (o : Own) (b : List UInt8) : lay A fc 0 0 [.cells [.sl (o.adv 1) 1 (strBytes (b.drop 1)), .int .i64 1]] = RFa A fc o b 1 := (RFa_lay A fc o b 1).symm
theorem adv_adv (o : Own) (i n : Nat) : (o.adv i).adv n = o.adv (i + n) := by cases o <;> simp [Own.adv, Nat.add_assoc]
theorem RFa_length (A : St) (fc : List D) (o : Own) (b : List UInt8) (i : Nat) : (RFa A fc o b i).length = A.length + 4 := by simp [RFa, rd, lay]
theorem RFa_loadR (A : St) (fc : List D) (o : Own) (b : List UInt8) (i : Nat) (g : Bool) (n off : Nat) : loadO g n (.ref (A.length + 3) off) (RFa A fc o b i) = ofCells g [.sl (o.adv i) 1 (strBytes (b.drop i)), .int .i64 i] off n :=
  rd_load (by rw [lay_length]; simp)
theorem RFa_store (A : St) (fc : List D) (o : Own) (b : List UInt8) (i off : Nat) (d : D) : storeO false 1 (.ref A.length off) d (RFa A fc o b i) = (layCells false 1 off fc d).map fun fc' => RFa A fc' o b i := by
  rw [RFa_lay]
  have hA : (lay A fc 0 0 [.cells [.sl (o.adv i) 1 (strBytes (b.drop i)), .int .i64 i]])[A.length]? = some (.cells fc) := by unfold lay; rw [get_app _ _ _ 0 (by omega)]; rfl
  unfold storeO layCells
  cases d.cellsT false with
  | none => rfl
  | some vs =>
    simp only [Option.bind_some, hA]
    split
    · simp only [Option.map_some, RFa_lay]
      unfold lay
      rw [set_app _ _ 0 _ _ (by omega)]; rfl
    · rfl
theorem g28 (A : St) (fc : List D) (o : Own) (ho : o.shut A.length = o) (b : List UInt8) (i n : Nat) (hb : b.length ≤ 9223372036854775807) (h : i + n ≤ b.length) (hn : n ≤ 8) :
    Run Try.prog codecH 28 [.ref (A.length + 3) 0, .int .i64 n] (RFa A fc o b i) = some (.ret (.int .u64 (num ((b.drop i).take n))), RFa A fc o b (i + n)) := by
  unfold RFa
  rw [s28 _ _ n (by rw [lay_length]; simp) _ (by rw [lay_length]; exact shut_mono (adv_shut ho i) (by omega)) _ _ (by omega) (by omega) (by simp; omega) hn, adv_adv, List.drop_drop]
  rfl
theorem g29 (A : St) (fc : List D) (o : Own) (ho : o.shut A.length = o) (b : List UInt8) (i n : Nat) (hb : b.length ≤ 9223372036854775807) (h : i + n ≤ b.length) (hn : n ≤ 7) (most : Nat) (hm : num ((b.drop i).take n) ≤ most) :
    Run Try.prog codecH 29 [.ref (A.length + 3) 0, .int .i64 n, .int .u64 most] (RFa A fc o b i) = some (.ret (.int .i64 (num ((b.drop i).take n))), RFa A fc o b (i + n)) := by
  unfold RFa
  rw [s29 _ _ n (by rw [lay_length]; simp) _ (by rw [lay_length]; exact shut_mono (adv_shut ho i) (by omega)) _ _ (by omega) (by omega) (by simp; omega) hn most hm, adv_adv, List.drop_drop]
  rfl
theorem g29_much (A : St) (fc : List D) (o : Own) (ho : o.shut A.length = o) (b : List UInt8) (i n : Nat) (hb : b.length ≤ 9223372036854775807) (h : i + n ≤ b.length) (hn : n ≤ 8) (most : Nat) (hm : ¬ num ((b.drop i).take n) ≤ most) :
    Run Try.prog codecH 29 [.ref (A.length + 3) 0, .int .i64 n, .int .u64 most] (RFa A fc o b i) = some (.pan (faultD i 180), RFa A fc o b (i + n)) := by
  unfold RFa
  rw [s29_much _ _ n (by rw [lay_length]; simp) _ (by rw [lay_length]; exact shut_mono (adv_shut ho i) (by omega)) _ _ (by omega) (by omega) (by simp; omega) hn most hm, adv_adv, List.drop_drop]
  rfl
theorem g31 (A : St) (fc : List D) (o : Own) (ho : o.shut A.length = o) (b : List UInt8) (i n : Nat) (hb : b.length ≤ 9223372036854775807) (h : i + n ≤ b.length) :
    Run Try.prog codecH 31 [.ref (A.length + 3) 0, .int .i64 n] (RFa A fc o b i) = some (.ret (.sl .full 1 (strBytes ((b.drop i).take n))), RFa A fc o b (i + n)) := by
  unfold RFa
  rw [s31 _ _ n (by rw [lay_length]; simp) _ (by rw [lay_length]; exact shut_mono (adv_shut ho i) (by omega)) _ _ (by omega) (by omega) (by simp; omega), adv_adv, List.drop_drop]
  rfl
theorem lay_fold (A : St) (fc : List D) (x y : Int) : A ++ [Slot.cells fc, .cells [.int .i64 x], .cells [.int .i64 y]] = lay A fc x y [] := rfl
theorem RFa_fold (A : St) (fc : List D) (o : Own) (b : List UInt8) : A ++ [Slot.cells fc, .cells [.int .i64 0], .cells [.int .i64 0], .cells [.sl (o.adv 1) 1 (strBytes (b.drop 1)), .int .i64 1]] = RFa A fc o b 1 := (RFa_lay A fc o b 1).symm
theorem RFa_load0 (A : St) (fc : List D) (o : Own) (b : List UInt8) (i : Nat) (g : Bool) (n off : Nat) : loadO g n (.ref A.length off) (RFa A fc o b i) = ofCells g fc off n := by rw [RFa_lay]; exact lay_load0 ..
theorem lay_aggsl (a c : D) (o : Own) (es : Nat) (ds : List D) (k : IntKind) (n : Int) : layCells true 2 0 [a, c] (.agg [.sl o es ds, .int k n]) = some [.sl o es ds, .int k n] := rfl
theorem s25z (A : St) (a b c d e f : D) (x : Int) (T : St) :
    Dcall Try.prog codecH (.fn (.func 25) [] [.ref (A.length + 2) 0, .ref A.length 0]) [] none (lay A [a, b, c, d, e, f] x 0 T) = some (none, lay A [a, b, c, d, e, f] x 0 T) := by
  have := s25 A [a, b, c, d, e, f] rfl x 0 T
  simpa using this
theorem s25e (A : St) (a b c d e f : D) (x y : Int) (hy : y ≠ 0) (T : St) :
    Dcall Try.prog codecH (.fn (.func 25) [] [.ref (A.length + 2) 0, .ref A.length 0]) [] none (lay A [a, b, c, d, e, f] x y T) = some (none, lay A [.int .u8 0, .int .u32 0, .int .u32 0, .int .u64 0, .int .u64 0, .sl .full 0 []] x y T) := by
  have := s25 A [a, b, c, d, e, f] rfl x y T
  rw [if_neg hy] at this
  exact this
theorem Kept_layA (A : St) (fc : List D) (x y : Int) (T : St) : Kept A (lay A fc x y T) ↔ True := by unfold lay; exact Kept_append _ _
theorem take_layA (A : St) (fc : List D) (x y : Int) (T : St) : (lay A fc x y T).take A.length = A := by unfold lay; exact List.take_left
theorem own_ite (c : Prop) [Decidable c] (n : Nat) : (if c then Own.full else Own.sh).shut n = if c then .full else .sh := by split <;> rfl
theorem num_le4 (l : List UInt8) (h : l.length ≤ 4) : num l ≤ 4294967295 := by
  have := num_lt l
  have h2 : 256 ^ l.length ≤ 256 ^ 4 := Nat.pow_le_pow_right (by omega) h
  have e : (256 : Nat) ^ 4 = 4294967296 := by decide
  omega
end Go.Vm.Codec
