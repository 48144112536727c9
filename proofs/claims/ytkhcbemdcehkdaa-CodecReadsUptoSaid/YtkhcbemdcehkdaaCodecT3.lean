/- CodecT1, CodecT2, CodecT3 in one text. -/
import Derived.Test.YtkhcbemdcehkdaaCodecS12
import Derived.Test.YtkhcbemdcehkdaaCodecF2
set_option linter.all false
/- The state of the codec's reader of results: three results, a reader, and what lies above. -/
namespace Go.Vm.Codec
open Go.Proofs
set_option linter.unusedVariables false
set_option linter.unusedSimpArgs false
set_option maxRecDepth 10000
set_option maxHeartbeats 1000000

def RFt (A : St) (fc : List D) (o : Own) (b : List UInt8) (i : Nat) (T : St) : St := lay A fc 0 0 (.cells [.sl (o.adv i) 1 (strBytes (b.drop i)), .int .i64 i] :: T)
theorem RFt_app (A : St) (fc : List D) (o : Own) (b : List UInt8) (i : Nat) (T : St) (s : Slot) : RFt A fc o b i T ++ [s] = RFt A fc o b i (T ++ [s]) := by simp [RFt, lay_app]
theorem qd5 (A : St) (fc : List D) (o : Own) (b : List UInt8) (i : Nat) (T : St) : (RFt A fc o b i T).length = A.length + (T.length + 4) := by simp [RFt, lay]
theorem RFt_rd (A : St) (fc : List D) (o : Own) (b : List UInt8) (i : Nat) (T : St) : RFt A fc o b i T = rd (lay A fc 0 0 (.dead :: T)) (A.length + 3) (o.adv i) (b.drop i) i := by
  unfold RFt rd lay
  rw [set_app _ _ 3 _ _ rfl]; rfl
theorem RFt_at (A : St) (fc : List D) (o : Own) (b : List UInt8) (i : Nat) (T : St) (j k : Nat) (h : k = A.length + (j + 4)) : (RFt A fc o b i T)[k]? = T[j]? := by
  subst h
  unfold RFt lay
  rw [get_app _ _ _ (j + 4) rfl]; rfl
theorem RFt_set (A : St) (fc : List D) (o : Own) (b : List UInt8) (i : Nat) (T : St) (j k : Nat) (s : Slot) (h : k = A.length + (j + 4)) : (RFt A fc o b i T).set k s = RFt A fc o b i (T.set j s) := by
  subst h
  unfold RFt lay
  rw [set_app _ _ (j + 4) _ _ rfl]; rfl
theorem RFt_loadR (A : St) (fc : List D) (o : Own) (b : List UInt8) (i : Nat) (T : St) (g : Bool) (n off : Nat) : loadO g n (.ref (A.length + 3) off) (RFt A fc o b i T) = ofCells g [.sl (o.adv i) 1 (strBytes (b.drop i)), .int .i64 i] off n := by
  rw [RFt_rd]; exact qc6 (by rw [lay_length]; simp)
theorem RFt_loadT (A : St) (fc : List D) (o : Own) (b : List UInt8) (i : Nat) (T : St) (j : Nat) (cs : List D) (k : Nat) (hk : k = A.length + (j + 4)) (h : T[j]? = some (.cells cs)) (g : Bool) (n off : Nat) : loadO g n (.ref k off) (RFt A fc o b i T) = ofCells g cs off n :=
  load_ref (by rw [RFt_at _ _ _ _ _ _ j k hk, h])
theorem RFt_storeT (A : St) (fc : List D) (o : Own) (b : List UInt8) (i : Nat) (T : St) (j n : Nat) (cs vs : List D) (k : Nat) (hk : k = A.length + (j + 4)) (h : T[j]? = some (.cells cs)) (hv : allCells vs = true) (hn : Nat.beq vs.length n = true) (hc : Nat.beq cs.length n = true) :
    storeO true n (.ref k 0) (.agg vs) (RFt A fc o b i T) = some (RFt A fc o b i (T.set j (.cells vs))) := by
  rw [storeA (cs := cs) (by rw [RFt_at _ _ _ _ _ _ j k hk, h]) hv hn hc, RFt_set _ _ _ _ _ _ j k _ hk]
theorem RFt_store1 (A : St) (fc : List D) (o : Own) (b : List UInt8) (i : Nat) (T : St) (j off : Nat) (cs : List D) (d : D) (k : Nat) (hk : k = A.length + (j + 4)) (h : T[j]? = some (.cells cs)) (hd : d.cellsT false = some [d]) (ho : off < cs.length) :
    storeO false 1 (.ref k off) d (RFt A fc o b i T) = some (RFt A fc o b i (T.set j (.cells (splice cs off [d])))) := by
  rw [storeO1 (cs := cs) (by rw [RFt_at _ _ _ _ _ _ j k hk, h]) hd ho, RFt_set _ _ _ _ _ _ j k _ hk]
theorem RFt_Kept (A : St) (fc : List D) (o : Own) (ho : o.shut A.length = o) (b : List UInt8) (i j : Nat) (T U : St) : Kept (RFt A fc o b i T) (RFt A fc o b j (T ++ U)) ↔ True := by
  refine iff_true_intro ⟨by simp [qd5], fun k hk => ?_⟩
  rw [qd5] at hk ⊢
  by_cases h1 : k < A.length
  · left; unfold RFt lay; rw [List.getElem?_append_left h1, List.getElem?_append_left h1]
  · obtain ⟨n, rfl⟩ : ∃ n, k = A.length + n := ⟨k - A.length, by omega⟩
    match n with
    | 0 => left; unfold RFt lay; rw [get_app _ _ _ 0 rfl, get_app _ _ _ 0 rfl]; rfl
    | 1 => left; unfold RFt lay; rw [get_app _ _ _ 1 rfl, get_app _ _ _ 1 rfl]; rfl
    | 2 => left; unfold RFt lay; rw [get_app _ _ _ 2 rfl, get_app _ _ _ 2 rfl]; rfl
    | 3 =>
      right
      refine ⟨.cells [.sl (o.adv j) 1 (strBytes (b.drop j)), .int .i64 j], ?_, ?_⟩
      · unfold RFt lay; rw [get_app _ _ _ 3 rfl]; rfl
      · simp [shut_mono (adv_shut ho j) (show A.length ≤ A.length + (T.length + 4) by omega)]
    | n + 4 =>
      left
      rw [RFt_at _ _ _ _ _ _ n _ rfl, RFt_at _ _ _ _ _ _ n _ rfl, List.getElem?_append_left (by omega)]
theorem RFt_Kept1 (A : St) (fc : List D) (o : Own) (ho : o.shut A.length = o) (b : List UInt8) (i j m m' : Nat) (U : St) : Kept (RFt A fc o b i [.tok m]) (RFt A fc o b j (.tok m' :: U)) ↔ True := by
  have h := (RFt_Kept A fc o ho b i j [.tok m] U).2 trivial
  refine iff_true_intro ⟨by simp [qd5], fun k hk => ?_⟩
  rw [qd5] at hk
  by_cases hk' : k = A.length + 4
  · subst hk'
    right
    exact ⟨.tok m', by rw [RFt_at _ _ _ _ _ _ 0 _ rfl]; rfl, by simp⟩
  · have h2 := h.2 k (by rw [qd5]; exact hk)
    have : (RFt A fc o b j (.tok m' :: U))[k]? = (RFt A fc o b j ([.tok m] ++ U))[k]? := by
      by_cases h1 : k < A.length
      · unfold RFt lay; rw [List.getElem?_append_left h1, List.getElem?_append_left h1]
      · obtain ⟨n, rfl⟩ : ∃ n, k = A.length + n := ⟨k - A.length, by omega⟩
        unfold RFt lay
        rw [get_app _ _ _ n rfl, get_app _ _ _ n rfl]
        simp at hk hk'
        match n with
        | 0 | 1 | 2 | 3 => rfl
        | n + 4 => omega
    rw [this]
    exact h2
theorem RFt_take (A : St) (fc : List D) (o : Own) (b : List UInt8) (i : Nat) (T U : St) (k : Nat) (hk : k = A.length + (T.length + 4)) : (RFt A fc o b i (T ++ U)).take k = RFt A fc o b i T := by
  subst hk
  have : RFt A fc o b i (T ++ U) = RFt A fc o b i T ++ U := by simp [RFt, lay]
  rw [this, ← qd5 A fc o b i T]
  exact List.take_left
theorem g28t (A : St) (fc : List D) (o : Own) (ho : o.shut A.length = o) (b : List UInt8) (T : St) (i n : Nat) (hb : b.length ≤ 9223372036854775807) (h : i + n ≤ b.length) (hn : n ≤ 8) :
    Run Try.prog codecH 28 [.ref (A.length + 3) 0, .int .i64 n] (RFt A fc o b i T) = some (.ret (.int .u64 (num ((b.drop i).take n))), RFt A fc o b (i + n) T) := by
  rw [RFt_rd, s28 _ _ n (by rw [lay_length]; simp) _ (by rw [lay_length]; exact shut_mono (adv_shut ho i) (by omega)) _ _ (by omega) (by omega) (by simp; omega) hn, adv_adv, List.drop_drop, RFt_rd]
  rfl
theorem g28t_pan (A : St) (fc : List D) (o : Own) (ho : o.shut A.length = o) (b : List UInt8) (T : St) (i n : Nat) (h : ¬ i + n ≤ b.length) (hi : i ≤ b.length) (hn : n ≤ 8) :
    Run Try.prog codecH 28 [.ref (A.length + 3) 0, .int .i64 n] (RFt A fc o b i T) = some (.pan (faultD i 180), RFt A fc o b i T) := by
  rw [RFt_rd, s28_pan _ _ n (by rw [lay_length]; simp) _ (by rw [lay_length]; exact shut_mono (adv_shut ho i) (by omega)) _ _ (by omega) (by simp; omega)]
theorem g29t (A : St) (fc : List D) (o : Own) (ho : o.shut A.length = o) (b : List UInt8) (T : St) (i n : Nat) (hb : b.length ≤ 9223372036854775807) (h : i + n ≤ b.length) (hn : n ≤ 7) (most : Nat) (hm : num ((b.drop i).take n) ≤ most) :
    Run Try.prog codecH 29 [.ref (A.length + 3) 0, .int .i64 n, .int .u64 most] (RFt A fc o b i T) = some (.ret (.int .i64 (num ((b.drop i).take n))), RFt A fc o b (i + n) T) := by
  rw [RFt_rd, s29 _ _ n (by rw [lay_length]; simp) _ (by rw [lay_length]; exact shut_mono (adv_shut ho i) (by omega)) _ _ (by omega) (by omega) (by simp; omega) hn most hm, adv_adv, List.drop_drop, RFt_rd]
  rfl
theorem g29t_much (A : St) (fc : List D) (o : Own) (ho : o.shut A.length = o) (b : List UInt8) (T : St) (i n : Nat) (hb : b.length ≤ 9223372036854775807) (h : i + n ≤ b.length) (hn : n ≤ 8) (most : Nat) (hm : ¬ num ((b.drop i).take n) ≤ most) :
    Run Try.prog codecH 29 [.ref (A.length + 3) 0, .int .i64 n, .int .u64 most] (RFt A fc o b i T) = some (.pan (faultD i 180), RFt A fc o b (i + n) T) := by
  rw [RFt_rd, s29_much _ _ n (by rw [lay_length]; simp) _ (by rw [lay_length]; exact shut_mono (adv_shut ho i) (by omega)) _ _ (by omega) (by omega) (by simp; omega) hn most hm, adv_adv, List.drop_drop, RFt_rd]
  rfl
theorem g29t_pan (A : St) (fc : List D) (o : Own) (ho : o.shut A.length = o) (b : List UInt8) (T : St) (i n : Nat) (h : ¬ i + n ≤ b.length) (hi : i ≤ b.length) (hn : n ≤ 8) (most : Nat) :
    Run Try.prog codecH 29 [.ref (A.length + 3) 0, .int .i64 n, .int .u64 most] (RFt A fc o b i T) = some (.pan (faultD i 180), RFt A fc o b i T) := by
  rw [RFt_rd, s29_pan _ _ n (by rw [lay_length]; simp) _ (by rw [lay_length]; exact shut_mono (adv_shut ho i) (by omega)) _ _ (by omega) (by simp; omega)]
theorem g31t (A : St) (fc : List D) (o : Own) (ho : o.shut A.length = o) (b : List UInt8) (T : St) (i n : Nat) (hb : b.length ≤ 9223372036854775807) (h : i + n ≤ b.length) :
    Run Try.prog codecH 31 [.ref (A.length + 3) 0, .int .i64 n] (RFt A fc o b i T) = some (.ret (.sl .full 1 (strBytes ((b.drop i).take n))), RFt A fc o b (i + n) T) := by
  rw [RFt_rd, s31 _ _ n (by rw [lay_length]; simp) _ (by rw [lay_length]; exact shut_mono (adv_shut ho i) (by omega)) _ _ (by omega) (by omega) (by simp; omega), adv_adv, List.drop_drop, RFt_rd]
  rfl
theorem g31t_pan (A : St) (fc : List D) (o : Own) (ho : o.shut A.length = o) (b : List UInt8) (T : St) (i n : Nat) (h : ¬ i + n ≤ b.length) (hi : i ≤ b.length) (hn : n ≤ 9223372036854775807) :
    Run Try.prog codecH 31 [.ref (A.length + 3) 0, .int .i64 n] (RFt A fc o b i T) = some (.pan (faultD i 180), RFt A fc o b i T) := by
  rw [RFt_rd, s31_pan _ _ n (by rw [lay_length]; simp) _ (by rw [lay_length]; exact shut_mono (adv_shut ho i) (by omega)) _ _ (by omega) (by simp; omega)]
end Go.Vm.Codec

/- What the codec's reader of stamps comes to. -/
namespace Go.Vm.Codec
open Go.Proofs
set_option linter.unusedVariables false
set_option linter.unusedSimpArgs false
set_option maxRecDepth 10000
set_option maxHeartbeats 4000000

def lastOk (v : Stamps) (d : Nat) : Bool := match v.getLast? with
  | none => true
  | some q => decide (q.1 < (d : Int))
/-- so many stamps from a place on; or the place of the first fault, and where the reader stands then -/
def pSt (b : List UInt8) : Nat → Nat → Stamps → Except (Nat × Nat) (Stamps × Nat)
  | 0, i, v => .ok (v, i)
  | m + 1, i, v => if i + 10 ≤ b.length then
      if num ((b.drop i).take 2) < 256 ∧ lastOk v (num ((b.drop i).take 2)) = true then pSt b m (i + 10) (v ++ [((num ((b.drop i).take 2) : Int), num ((b.drop (i + 2)).take 8))])
      else .error (i, i + 10)
    else .error (i, i)
theorem num_le2 (l : List UInt8) (h : l.length ≤ 2) : num l ≤ 65535 := by
  have := num_lt l
  have h2 : 256 ^ l.length ≤ 256 ^ 2 := Nat.pow_le_pow_right (by omega) h
  have e : (256 : Nat) ^ 2 = 65536 := by decide
  omega
/-- the inner reader -/
theorem h28 (A : St) (fc : List D) (o : Own) (b : List UInt8) (i m : Nat) (l : List UInt8) (p n : Nat) (T : St) (hp : p + n ≤ 9223372036854775807) (h : n ≤ l.length) (hn : n ≤ 8) :
    Run Try.prog codecH 28 [.ref (A.length + 5) 0, .int .i64 n] (RFt A fc o b i (.tok m :: .cells [.sl .full 1 (strBytes l), .int .i64 p] :: T)) =
      some (.ret (.int .u64 (num (l.take n))), RFt A fc o b i (.tok m :: .cells [.sl .full 1 (strBytes (l.drop n)), .int .i64 ((p + n : Nat) : Int)] :: T)) := by
  have e : ∀ l' : List UInt8, ∀ p' : Int, RFt A fc o b i (.tok m :: .cells [.sl .full 1 (strBytes l'), .int .i64 p'] :: T) = rd (RFt A fc o b i (.tok m :: .dead :: T)) (A.length + 5) .full l' p' := fun l' p' => by
    unfold rd
    rw [RFt_set _ _ _ _ _ _ 1 _ _ (by omega)]; rfl
  rw [e, s28 _ _ n (by rw [qd5]; simp) .full rfl l p (by omega) (by omega) h hn, e]
  rfl
theorem parts_ag1 (a c : D) (h : allCells [a, c] = true) : sliceParts 2 true 0 [(0, .agg [a, c])] = some [.agg [a, c]] := by
  simp [sliceParts, D.cellsT, h, D.agg?]
theorem stampsD_snoc (v : Stamps) (q : Int × Nat) : stampsD v ++ [.agg [.int .i64 q.1, .int .u64 q.2]] = stampsD (v ++ [q]) := by simp [stampsD, stD]
theorem s34_push (A : St) (fc : List D) (o : Own) (b : List UInt8) (i : Nat) (v : Stamps) (hv : v.length ≤ 256) (d : Int) (w : Nat) (T : St) :
    appendO 2 16 (.sl (.own (A.length + 4) 0) 2 (stampsD v)) (.sl .full 2 [.agg [.int .i64 d, .int .u64 w]]) (RFt A fc o b i (.tok v.length :: T)) = some (.sl (.own (A.length + 4) 0) 2 (stampsD (v ++ [(d, w)])), RFt A fc o b i (.tok (v.length + 1) :: T)) := by
  rw [append_own (new_full _ _) (by rw [RFt_at _ _ _ _ _ _ 0 _ (by omega)]; simp) (by simp [roomOk]; omega) (by simp; omega), stampsD_snoc v (d, w), RFt_set _ _ _ _ _ _ 0 _ _ (by omega)]
  simp
theorem tok_have (p : Nat × Nat) (c s es : Nat) (ds : List D) (A : St) : tokO [p] (.sl (.own c s) es ds) A = some (.sl (.own c s) es ds, A) := rfl
theorem st_s1 (A : St) (fc : List D) (o : Own) (b : List UInt8) (i m : Nat) (l : List UInt8) (p : Int) :
    storeO true 2 (.ref (A.length + 5) 0) (.agg [.sl .full 1 (strBytes l), .int .i64 p]) (RFt A fc o b i [.tok m, .cells [.sl .full 0 [], .int .i64 0]]) = some (RFt A fc o b i [.tok m, .cells [.sl .full 1 (strBytes l), .int .i64 p]]) :=
  RFt_storeT A fc o b i _ 1 2 [.sl .full 0 [], .int .i64 0] [.sl .full 1 (strBytes l), .int .i64 p] _ (by omega) rfl rfl rfl rfl
theorem st_s2 (A : St) (fc : List D) (o : Own) (b : List UInt8) (i m : Nat) (X : Slot) (d : Int) (w : Nat) :
    storeO true 2 (.ref (A.length + 6) 0) (.agg [.int .i64 d, .int .u64 w]) (RFt A fc o b i [.tok m, X, .cells [.int .i64 0, .int .u64 0]]) = some (RFt A fc o b i [.tok m, X, .cells [.int .i64 d, .int .u64 w]]) :=
  RFt_storeT A fc o b i _ 2 2 [.int .i64 0, .int .u64 0] [.int .i64 d, .int .u64 w] _ (by omega) rfl rfl rfl rfl
theorem st_l2 (A : St) (fc : List D) (o : Own) (b : List UInt8) (i m : Nat) (X : Slot) (cs : List D) (g : Bool) (n off : Nat) :
    loadO g n (.ref (A.length + 6) off) (RFt A fc o b i [.tok m, X, .cells cs]) = ofCells g cs off n := RFt_loadT A fc o b i _ 2 cs _ (by omega) rfl g n off
theorem st_K (A : St) (fc : List D) (o : Own) (ho : o.shut A.length = o) (b : List UInt8) (i j m m' : Nat) (U : St) : Kept (RFt A fc o b i [.tok m]) (RFt A fc o b j (.tok m' :: U)) ↔ True := RFt_Kept1 A fc o ho b i j m m' U
theorem st_K0 (A : St) (fc : List D) (o : Own) (ho : o.shut A.length = o) (b : List UInt8) (i j : Nat) (U : St) : Kept (RFt A fc o b i []) (RFt A fc o b j U) ↔ True := by
  have := RFt_Kept A fc o ho b i j [] U
  exact this
theorem st_t (A : St) (fc : List D) (o : Own) (b : List UInt8) (i m : Nat) (U : St) : (RFt A fc o b i (.tok m :: U)).take (A.length + 5) = RFt A fc o b i [.tok m] := RFt_take A fc o b i [.tok m] U _ (by simp)
theorem st_t0 (A : St) (fc : List D) (o : Own) (b : List UInt8) (i : Nat) (U : St) : (RFt A fc o b i U).take (A.length + 4) = RFt A fc o b i [] := RFt_take A fc o b i [] U _ (by simp)
theorem parts_st (d : Int) (w : Nat) : sliceParts 2 true 0 [(0, .agg [.int .i64 d, .int .u64 w])] = some [.agg [.int .i64 d, .int .u64 w]] := parts_ag1 _ _ rfl
/-- a round that goes well, with nothing before it -/
theorem s34_first (A : St) (i0 : Nat) (fc : List D) (o : Own) (ho : o.shut A.length = o) (b : List UInt8) (hb : b.length ≤ 140737488355328) (n k i : Nat) (hk : k < n) (hn : n ≤ 256) (h : i + 10 ≤ b.length) (hd : num ((b.drop i).take 2) < 256) :
    f34_s0 (Run Try.prog codecH) (Dcall Try.prog codecH) (RFt A fc o b i0 []) (Env.mk [.ref (A.length + 3) 0, D.any, D.any, .sl (.own (A.length + 4) 0) 2 (stampsD []), D.any, D.any, D.any, D.any, .int .i64 n, .int .i64 k, D.any, D.any, D.any, D.any, D.any, D.any, D.any, D.any, D.any, D.any, D.any, D.any, D.any, D.any, D.any, D.any, D.any, D.any, D.any, D.any, D.any, D.any, D.any, D.any, D.any, D.any, D.any, D.any, D.any, D.any, D.any, D.any, D.any, D.any, D.any, D.any, D.any, D.any, D.any, D.any, D.any, D.any, D.any, D.any, D.any] []) (RFt A fc o b i [.tok 0]) =
      some (.inl ((Env.mk [.ref (A.length + 3) 0, D.any, D.any, .sl (.own (A.length + 4) 0) 2 (stampsD ([] ++ [((num ((b.drop i).take 2) : Int), num ((b.drop (i + 2)).take 8))])), D.any, D.any, D.any, D.any, .int .i64 n, .int .i64 ((k + 1 : Nat) : Int), D.any, D.any, D.any, D.any, D.any, D.any, D.any, D.any, D.any, D.any, D.any, D.any, D.any, D.any, D.any, D.any, D.any, D.any, D.any, D.any, D.any, D.any, D.any, D.any, D.any, D.any, D.any, D.any, D.any, D.any, D.any, D.any, D.any, D.any, D.any, D.any, D.any, D.any, D.any, D.any, D.any, D.any, D.any, D.any, D.any] []), RFt A fc o b (i + 10) [.tok 1])) := by
  unfold f34_s0
  have t31 : ∀ T, Run Try.prog codecH 31 [.ref (A.length + 3) 0, .int .i64 10] (RFt A fc o b i T) = _ := fun T => g31t A fc o ho b T i 10 (by omega) h
  have hl : ((b.drop i).take 10).length = 10 := by rw [List.length_take, List.length_drop]; omega
  have i2 : ∀ m T, Run Try.prog codecH 28 [.ref (A.length + 5) 0, .int .i64 2] (RFt A fc o b (i + 10) (.tok m :: .cells [.sl .full 1 (strBytes ((b.drop i).take 10)), .int .i64 i] :: T)) = _ := fun m T => h28 A fc o b (i + 10) m ((b.drop i).take 10) i 2 T (by omega) (by omega) (by omega)
  have i8 : ∀ m T, Run Try.prog codecH 28 [.ref (A.length + 5) 0, .int .i64 8] (RFt A fc o b (i + 10) (.tok m :: .cells [.sl .full 1 (strBytes (((b.drop i).take 10).drop 2)), .int .i64 ((i + 2 : Nat) : Int)] :: T)) = _ := fun m T => h28 A fc o b (i + 10) m (((b.drop i).take 10).drop 2) (i + 2) 8 T (by omega) (by rw [List.length_drop]; omega) (by omega)
  have e2 : ((b.drop i).take 10).take 2 = (b.drop i).take 2 := by rw [List.take_take]; rfl
  have e8 : (((b.drop i).take 10).drop 2).take 8 = (b.drop (i + 2)).take 8 := by rw [List.drop_take, List.take_take, List.drop_drop]; rfl
  rw [e2] at i2
  rw [e8] at i8
  have k2 := num_le2 ((b.drop i).take 2) (by simp; omega)
  have hv : ∀ T, appendO 2 16 (.sl (.own (A.length + 4) 0) 2 (stampsD [])) (.sl .full 2 [.agg [.int .i64 (num ((b.drop i).take 2)), .int .u64 (num ((b.drop (i + 2)).take 8))]]) (RFt A fc o b (i + 10) (.tok 0 :: T)) = some (.sl (.own (A.length + 4) 0) 2 (stampsD ([] ++ [((num ((b.drop i).take 2) : Int), num ((b.drop (i + 2)).take 8))])), RFt A fc o b (i + 10) (.tok 1 :: T)) := fun T => s34_push A fc o b (i + 10) [] (by simp) (num ((b.drop i).take 2)) (num ((b.drop (i + 2)).take 8)) T
  have hK := fun U => st_K A fc o ho b i (i + 10) 0 1 U
  (repeat (first | (first | with_reducible refine qdh ?_ | with_reducible refine qdj ?_ | with_reducible refine qdk ?_ | with_reducible refine qdt ?_ | with_reducible refine qdi ?_ | with_reducible refine qbr ?_ | with_reducible refine qc2 ?_ | with_reducible refine qa9 ?_ | with_reducible refine qdw ?_ | with_reducible refine qdx ?_ | with_reducible refine qdr ?_ | with_reducible refine qds ?_ | with_reducible refine qdv ?_ | with_reducible refine qdu ?_ | with_reducible refine qc1 ?_) | ((conv => lhs; arg 1; simp (disch := first | omega | assumption) only [qc7, qdg, qb1, qbc, qap, qb2, qce, Sum.elim_inl, Sum.elim_inr, Option.map_some, Option.map_none, Option.bind_some, Option.bind_none, Option.bind_eq_bind, qd0, qdz, qcz, qcr, qct, qcu, qcv, qcw, qcx, qcy, qcs, shl8, or8, shr8, qbu, qbs, qbp, qcn, qbo, qb3, qcp, qco, qbq, qa6, qaz, qat, qaj, qdq, qdo, qdn, qdp, qcf, qcg, qch, qci, qcj, qck, qcl, qcm, qd3, qd4, qd1, qd2, qaa, qbg, qbh, qau, qak, qae, qaf, qaw, qb6, qbv, qbe, qbx, qbd, qca, qbj, qb8, qc5, qcb, qbw, qbk, qa0, qb9, qbf, qay, qdl, qcc, qc9, qc3, qbi, qao, qb5, qa7, qa5, qaq, qah, qan, qa4, qa3, qas, qai, qad, qac, qab, qb0, qa2, qbn, qbz, qby, qa8, List.take_length, List.map_nil, List.drop_zero, List.drop_succ_cons, Nat.zero_add, Nat.add_zero, qba, qbb, qc6, qbm, qbl, qc8, qb4, qb7, qax, qa1, qar, qda, qbt, qdd, qcq, qal, qam, qag, qav, cond_true, cond_false, qc0, qdb, qc4, qdf, qdm, qcd, qdy, qde, qdc, ofA2, ofA3, ofA4, ofA6, packD, List.take_left, List.length_append, List.length_cons, List.length_nil, List.length_set, t31, i2, i8, RFt_loadR, RFt_app, qd5, List.cons_append, List.nil_append, Nat.add_assoc, Nat.reduceAdd, lay_aggsl, stampsD_length, st_s1, st_s2, st_l2, parts_st, tok_have]); (first | with_reducible refine qdh ?_ | with_reducible refine qdj ?_ | with_reducible refine qdk ?_ | with_reducible refine qdt ?_ | with_reducible refine qdi ?_ | with_reducible refine qbr ?_ | with_reducible refine qc2 ?_ | with_reducible refine qa9 ?_ | with_reducible refine qdw ?_ | with_reducible refine qdx ?_ | with_reducible refine qdr ?_ | with_reducible refine qds ?_ | with_reducible refine qdv ?_ | with_reducible refine qdu ?_ | with_reducible refine qc1 ?_))))
  simp (disch := first | omega | assumption) only [qc7, qdg, qb1, qbc, qap, qb2, qce, Sum.elim_inl, Sum.elim_inr, Option.map_some, Option.map_none, Option.bind_some, Option.bind_none, Option.bind_eq_bind, qd0, qdz, qcz, qcr, qct, qcu, qcv, qcw, qcx, qcy, qcs, shl8, or8, shr8, qbu, qbs, qbp, qcn, qbo, qb3, qcp, qco, qbq, qa6, qaz, qat, qaj, qdq, qdo, qdn, qdp, qcf, qcg, qch, qci, qcj, qck, qcl, qcm, qd3, qd4, qd1, qd2, qaa, qbg, qbh, qau, qak, qae, qaf, qaw, qb6, qbv, qbe, qbx, qbd, qca, qbj, qb8, qc5, qcb, qbw, qbk, qa0, qb9, qbf, qay, qdl, qcc, qc9, qc3, qbi, qao, qb5, qa7, qa5, qaq, qah, qan, qa4, qa3, qas, qai, qad, qac, qab, qb0, qa2, qbn, qbz, qby, qa8, List.take_length, List.map_nil, List.drop_zero, List.drop_succ_cons, Nat.zero_add, Nat.add_zero, qba, qbb, qc6, qbm, qbl, qc8, qb4, qb7, qax, qa1, qar, qda, qbt, qdd, qcq, qal, qam, qag, qav, cond_true, cond_false, qc0, qdb, qc4, qdf, qdm, qcd, qdy, qde, qdc, ofA2, ofA3, ofA4, ofA6, packD, List.take_left, List.length_append, List.length_cons, List.length_nil, List.length_set, qd5, hv, hK, tok_have, st_t, stampsD_length, Nat.reduceAdd, shutL_st, List.map_nil]
  rfl
/-- a round that goes well, with one before it -/
theorem s34_next (A : St) (i0 : Nat) (fc : List D) (o : Own) (ho : o.shut A.length = o) (b : List UInt8) (hb : b.length ≤ 140737488355328) (n k i : Nat) (hk : k < n) (hn : n ≤ 256) (h : i + 10 ≤ b.length) (hd : num ((b.drop i).take 2) < 256) (v : Stamps) (hv0 : 0 < v.length) (hv : v.length ≤ 256) (hq : v[v.length - 1].1 < (num ((b.drop i).take 2) : Int)) :
    f34_s0 (Run Try.prog codecH) (Dcall Try.prog codecH) (RFt A fc o b i0 []) (Env.mk [.ref (A.length + 3) 0, D.any, D.any, .sl (.own (A.length + 4) 0) 2 (stampsD v), D.any, D.any, D.any, D.any, .int .i64 n, .int .i64 k, D.any, D.any, D.any, D.any, D.any, D.any, D.any, D.any, D.any, D.any, D.any, D.any, D.any, D.any, D.any, D.any, D.any, D.any, D.any, D.any, D.any, D.any, D.any, D.any, D.any, D.any, D.any, D.any, D.any, D.any, D.any, D.any, D.any, D.any, D.any, D.any, D.any, D.any, D.any, D.any, D.any, D.any, D.any, D.any, D.any] []) (RFt A fc o b i [.tok v.length]) =
      some (.inl ((Env.mk [.ref (A.length + 3) 0, D.any, D.any, .sl (.own (A.length + 4) 0) 2 (stampsD (v ++ [((num ((b.drop i).take 2) : Int), num ((b.drop (i + 2)).take 8))])), D.any, D.any, D.any, D.any, .int .i64 n, .int .i64 ((k + 1 : Nat) : Int), D.any, D.any, D.any, D.any, D.any, D.any, D.any, D.any, D.any, D.any, D.any, D.any, D.any, D.any, D.any, D.any, D.any, D.any, D.any, D.any, D.any, D.any, D.any, D.any, D.any, D.any, D.any, D.any, D.any, D.any, D.any, D.any, D.any, D.any, D.any, D.any, D.any, D.any, D.any, D.any, D.any, D.any, D.any, D.any, D.any] []), RFt A fc o b (i + 10) [.tok (v.length + 1)])) := by
  unfold f34_s0
  have t31 : ∀ T, Run Try.prog codecH 31 [.ref (A.length + 3) 0, .int .i64 10] (RFt A fc o b i T) = _ := fun T => g31t A fc o ho b T i 10 (by omega) h
  have hl : ((b.drop i).take 10).length = 10 := by rw [List.length_take, List.length_drop]; omega
  have i2 : ∀ m T, Run Try.prog codecH 28 [.ref (A.length + 5) 0, .int .i64 2] (RFt A fc o b (i + 10) (.tok m :: .cells [.sl .full 1 (strBytes ((b.drop i).take 10)), .int .i64 i] :: T)) = _ := fun m T => h28 A fc o b (i + 10) m ((b.drop i).take 10) i 2 T (by omega) (by omega) (by omega)
  have i8 : ∀ m T, Run Try.prog codecH 28 [.ref (A.length + 5) 0, .int .i64 8] (RFt A fc o b (i + 10) (.tok m :: .cells [.sl .full 1 (strBytes (((b.drop i).take 10).drop 2)), .int .i64 ((i + 2 : Nat) : Int)] :: T)) = _ := fun m T => h28 A fc o b (i + 10) m (((b.drop i).take 10).drop 2) (i + 2) 8 T (by omega) (by rw [List.length_drop]; omega) (by omega)
  have e2 : ((b.drop i).take 10).take 2 = (b.drop i).take 2 := by rw [List.take_take]; rfl
  have e8 : (((b.drop i).take 10).drop 2).take 8 = (b.drop (i + 2)).take 8 := by rw [List.drop_take, List.take_take, List.drop_drop]; rfl
  rw [e2] at i2
  rw [e8] at i8
  have k2 := num_le2 ((b.drop i).take 2) (by simp; omega)
  have hv := fun T => s34_push A fc o b (i + 10) v hv (num ((b.drop i).take 2)) (num ((b.drop (i + 2)).take 8)) T
  have hK := fun U => st_K A fc o ho b i (i + 10) v.length (v.length + 1) U
  have hix : ∀ o, indexAddrO 2 true (.sl o 2 (stampsD v)) (.int .i64 ((v.length : Int) - 1)) = some (.peek [.int .i64 v[v.length - 1].1, .int .u64 v[v.length - 1].2]) := fun o => by
    have := index_st o v (v.length - 1) .i64 (by omega)
    rw [show ((v.length - 1 : Nat) : Int) = (v.length : Int) - 1 by omega] at this
    exact this
  (repeat (first | (first | with_reducible refine qdh ?_ | with_reducible refine qdj ?_ | with_reducible refine qdk ?_ | with_reducible refine qdt ?_ | with_reducible refine qdi ?_ | with_reducible refine qbr ?_ | with_reducible refine qc2 ?_ | with_reducible refine qa9 ?_ | with_reducible refine qdw ?_ | with_reducible refine qdx ?_ | with_reducible refine qdr ?_ | with_reducible refine qds ?_ | with_reducible refine qdv ?_ | with_reducible refine qdu ?_ | with_reducible refine qc1 ?_) | ((conv => lhs; arg 1; simp (disch := first | omega | assumption) only [qc7, qdg, qb1, qbc, qap, qb2, qce, Sum.elim_inl, Sum.elim_inr, Option.map_some, Option.map_none, Option.bind_some, Option.bind_none, Option.bind_eq_bind, qd0, qdz, qcz, qcr, qct, qcu, qcv, qcw, qcx, qcy, qcs, shl8, or8, shr8, qbu, qbs, qbp, qcn, qbo, qb3, qcp, qco, qbq, qa6, qaz, qat, qaj, qdq, qdo, qdn, qdp, qcf, qcg, qch, qci, qcj, qck, qcl, qcm, qd3, qd4, qd1, qd2, qaa, qbg, qbh, qau, qak, qae, qaf, qaw, qb6, qbv, qbe, qbx, qbd, qca, qbj, qb8, qc5, qcb, qbw, qbk, qa0, qb9, qbf, qay, qdl, qcc, qc9, qc3, qbi, qao, qb5, qa7, qa5, qaq, qah, qan, qa4, qa3, qas, qai, qad, qac, qab, qb0, qa2, qbn, qbz, qby, qa8, List.take_length, List.map_nil, List.drop_zero, List.drop_succ_cons, Nat.zero_add, Nat.add_zero, qba, qbb, qc6, qbm, qbl, qc8, qb4, qb7, qax, qa1, qar, qda, qbt, qdd, qcq, qal, qam, qag, qav, cond_true, cond_false, qc0, qdb, qc4, qdf, qdm, qcd, qdy, qde, qdc, ofA2, ofA3, ofA4, ofA6, packD, List.take_left, List.length_append, List.length_cons, List.length_nil, List.length_set, t31, i2, i8, RFt_loadR, RFt_app, qd5, List.cons_append, List.nil_append, Nat.add_assoc, Nat.reduceAdd, lay_aggsl, stampsD_length, st_s1, st_s2, st_l2, parts_st, tok_have, hix]); (first | with_reducible refine qdh ?_ | with_reducible refine qdj ?_ | with_reducible refine qdk ?_ | with_reducible refine qdt ?_ | with_reducible refine qdi ?_ | with_reducible refine qbr ?_ | with_reducible refine qc2 ?_ | with_reducible refine qa9 ?_ | with_reducible refine qdw ?_ | with_reducible refine qdx ?_ | with_reducible refine qdr ?_ | with_reducible refine qds ?_ | with_reducible refine qdv ?_ | with_reducible refine qdu ?_ | with_reducible refine qc1 ?_))))
  simp (disch := first | omega | assumption) only [qc7, qdg, qb1, qbc, qap, qb2, qce, Sum.elim_inl, Sum.elim_inr, Option.map_some, Option.map_none, Option.bind_some, Option.bind_none, Option.bind_eq_bind, qd0, qdz, qcz, qcr, qct, qcu, qcv, qcw, qcx, qcy, qcs, shl8, or8, shr8, qbu, qbs, qbp, qcn, qbo, qb3, qcp, qco, qbq, qa6, qaz, qat, qaj, qdq, qdo, qdn, qdp, qcf, qcg, qch, qci, qcj, qck, qcl, qcm, qd3, qd4, qd1, qd2, qaa, qbg, qbh, qau, qak, qae, qaf, qaw, qb6, qbv, qbe, qbx, qbd, qca, qbj, qb8, qc5, qcb, qbw, qbk, qa0, qb9, qbf, qay, qdl, qcc, qc9, qc3, qbi, qao, qb5, qa7, qa5, qaq, qah, qan, qa4, qa3, qas, qai, qad, qac, qab, qb0, qa2, qbn, qbz, qby, qa8, List.take_length, List.map_nil, List.drop_zero, List.drop_succ_cons, Nat.zero_add, Nat.add_zero, qba, qbb, qc6, qbm, qbl, qc8, qb4, qb7, qax, qa1, qar, qda, qbt, qdd, qcq, qal, qam, qag, qav, cond_true, cond_false, qc0, qdb, qc4, qdf, qdm, qcd, qdy, qde, qdc, ofA2, ofA3, ofA4, ofA6, packD, List.take_left, List.length_append, List.length_cons, List.length_nil, List.length_set, qd5, hv, hK, tok_have, st_t, stampsD_length, Nat.reduceAdd, shutL_st, List.map_nil]
  rfl
/-- no round is left -/
theorem s34_end (A : St) (i0 : Nat) (fc : List D) (o : Own) (ho : o.shut A.length = o) (b : List UInt8) (n i : Nat) (v : Stamps) (m : Nat) :
    f34_s0 (Run Try.prog codecH) (Dcall Try.prog codecH) (RFt A fc o b i0 []) (Env.mk [.ref (A.length + 3) 0, D.any, D.any, .sl (.own (A.length + 4) 0) 2 (stampsD v), D.any, D.any, D.any, D.any, .int .i64 n, .int .i64 n, D.any, D.any, D.any, D.any, D.any, D.any, D.any, D.any, D.any, D.any, D.any, D.any, D.any, D.any, D.any, D.any, D.any, D.any, D.any, D.any, D.any, D.any, D.any, D.any, D.any, D.any, D.any, D.any, D.any, D.any, D.any, D.any, D.any, D.any, D.any, D.any, D.any, D.any, D.any, D.any, D.any, D.any, D.any, D.any, D.any] []) (RFt A fc o b i [.tok m]) = some (.inr (.ret (.sl .sh 2 (stampsD v)), RFt A fc o b i [])) := by
  unfold f34_s0
  have hK := fun j U => st_K0 A fc o ho b i0 j U
  (repeat (first | (first | with_reducible refine qdh ?_ | with_reducible refine qdj ?_ | with_reducible refine qdk ?_ | with_reducible refine qdt ?_ | with_reducible refine qdi ?_ | with_reducible refine qbr ?_ | with_reducible refine qc2 ?_ | with_reducible refine qa9 ?_ | with_reducible refine qdw ?_ | with_reducible refine qdx ?_ | with_reducible refine qdr ?_ | with_reducible refine qds ?_ | with_reducible refine qdv ?_ | with_reducible refine qdu ?_ | with_reducible refine qc1 ?_) | ((conv => lhs; arg 1; simp (disch := first | omega | assumption) only [qc7, qdg, qb1, qbc, qap, qb2, qce, Sum.elim_inl, Sum.elim_inr, Option.map_some, Option.map_none, Option.bind_some, Option.bind_none, Option.bind_eq_bind, qd0, qdz, qcz, qcr, qct, qcu, qcv, qcw, qcx, qcy, qcs, shl8, or8, shr8, qbu, qbs, qbp, qcn, qbo, qb3, qcp, qco, qbq, qa6, qaz, qat, qaj, qdq, qdo, qdn, qdp, qcf, qcg, qch, qci, qcj, qck, qcl, qcm, qd3, qd4, qd1, qd2, qaa, qbg, qbh, qau, qak, qae, qaf, qaw, qb6, qbv, qbe, qbx, qbd, qca, qbj, qb8, qc5, qcb, qbw, qbk, qa0, qb9, qbf, qay, qdl, qcc, qc9, qc3, qbi, qao, qb5, qa7, qa5, qaq, qah, qan, qa4, qa3, qas, qai, qad, qac, qab, qb0, qa2, qbn, qbz, qby, qa8, List.take_length, List.map_nil, List.drop_zero, List.drop_succ_cons, Nat.zero_add, Nat.add_zero, qba, qbb, qc6, qbm, qbl, qc8, qb4, qb7, qax, qa1, qar, qda, qbt, qdd, qcq, qal, qam, qag, qav, cond_true, cond_false, qc0, qdb, qc4, qdf, qdm, qcd, qdy, qde, qdc, ofA2, ofA3, ofA4, ofA6, packD, List.take_left, List.length_append, List.length_cons, List.length_nil, List.length_set, hK, st_t0, qd5, Nat.reduceAdd]); (first | with_reducible refine qdh ?_ | with_reducible refine qdj ?_ | with_reducible refine qdk ?_ | with_reducible refine qdt ?_ | with_reducible refine qdi ?_ | with_reducible refine qbr ?_ | with_reducible refine qc2 ?_ | with_reducible refine qa9 ?_ | with_reducible refine qdw ?_ | with_reducible refine qdx ?_ | with_reducible refine qdr ?_ | with_reducible refine qds ?_ | with_reducible refine qdv ?_ | with_reducible refine qdu ?_ | with_reducible refine qc1 ?_))))
  simp (disch := first | omega | assumption) only [qc7, qdg, qb1, qbc, qap, qb2, qce, Sum.elim_inl, Sum.elim_inr, Option.map_some, Option.map_none, Option.bind_some, Option.bind_none, Option.bind_eq_bind, qd0, qdz, qcz, qcr, qct, qcu, qcv, qcw, qcx, qcy, qcs, shl8, or8, shr8, qbu, qbs, qbp, qcn, qbo, qb3, qcp, qco, qbq, qa6, qaz, qat, qaj, qdq, qdo, qdn, qdp, qcf, qcg, qch, qci, qcj, qck, qcl, qcm, qd3, qd4, qd1, qd2, qaa, qbg, qbh, qau, qak, qae, qaf, qaw, qb6, qbv, qbe, qbx, qbd, qca, qbj, qb8, qc5, qcb, qbw, qbk, qa0, qb9, qbf, qay, qdl, qcc, qc9, qc3, qbi, qao, qb5, qa7, qa5, qaq, qah, qan, qa4, qa3, qas, qai, qad, qac, qab, qb0, qa2, qbn, qbz, qby, qa8, List.take_length, List.map_nil, List.drop_zero, List.drop_succ_cons, Nat.zero_add, Nat.add_zero, qba, qbb, qc6, qbm, qbl, qc8, qb4, qb7, qax, qa1, qar, qda, qbt, qdd, qcq, qal, qam, qag, qav, cond_true, cond_false, qc0, qdb, qc4, qdf, qdm, qcd, qdy, qde, qdc, ofA2, ofA3, ofA4, ofA6, packD, List.take_left, List.length_append, List.length_cons, List.length_nil, List.length_set, hK, st_t0, qd5, shutL_st, Nat.reduceAdd]
/-- too few bytes -/
theorem s34_short (A : St) (i0 : Nat) (fc : List D) (o : Own) (ho : o.shut A.length = o) (b : List UInt8) (hb : b.length ≤ 140737488355328) (n k i : Nat) (hk : k < n) (hn : n ≤ 256) (h : ¬ i + 10 ≤ b.length) (hi : i ≤ b.length) (v : Stamps) (m : Nat) :
    f34_s0 (Run Try.prog codecH) (Dcall Try.prog codecH) (RFt A fc o b i0 []) (Env.mk [.ref (A.length + 3) 0, D.any, D.any, .sl (.own (A.length + 4) 0) 2 (stampsD v), D.any, D.any, D.any, D.any, .int .i64 n, .int .i64 k, D.any, D.any, D.any, D.any, D.any, D.any, D.any, D.any, D.any, D.any, D.any, D.any, D.any, D.any, D.any, D.any, D.any, D.any, D.any, D.any, D.any, D.any, D.any, D.any, D.any, D.any, D.any, D.any, D.any, D.any, D.any, D.any, D.any, D.any, D.any, D.any, D.any, D.any, D.any, D.any, D.any, D.any, D.any, D.any, D.any] []) (RFt A fc o b i [.tok m]) = some (.inr (.pan (faultD i 180), RFt A fc o b i [])) := by
  unfold f34_s0
  have t31 : ∀ T, Run Try.prog codecH 31 [.ref (A.length + 3) 0, .int .i64 10] (RFt A fc o b i T) = _ := fun T => g31t_pan A fc o ho b T i 10 h hi (by omega)
  have hK := fun j U => st_K0 A fc o ho b i0 j U
  (repeat (first | (first | with_reducible refine qdh ?_ | with_reducible refine qdj ?_ | with_reducible refine qdk ?_ | with_reducible refine qdt ?_ | with_reducible refine qdi ?_ | with_reducible refine qbr ?_ | with_reducible refine qc2 ?_ | with_reducible refine qa9 ?_ | with_reducible refine qdw ?_ | with_reducible refine qdx ?_ | with_reducible refine qdr ?_ | with_reducible refine qds ?_ | with_reducible refine qdv ?_ | with_reducible refine qdu ?_ | with_reducible refine qc1 ?_) | ((conv => lhs; arg 1; simp (disch := first | omega | assumption) only [qc7, qdg, qb1, qbc, qap, qb2, qce, Sum.elim_inl, Sum.elim_inr, Option.map_some, Option.map_none, Option.bind_some, Option.bind_none, Option.bind_eq_bind, qd0, qdz, qcz, qcr, qct, qcu, qcv, qcw, qcx, qcy, qcs, shl8, or8, shr8, qbu, qbs, qbp, qcn, qbo, qb3, qcp, qco, qbq, qa6, qaz, qat, qaj, qdq, qdo, qdn, qdp, qcf, qcg, qch, qci, qcj, qck, qcl, qcm, qd3, qd4, qd1, qd2, qaa, qbg, qbh, qau, qak, qae, qaf, qaw, qb6, qbv, qbe, qbx, qbd, qca, qbj, qb8, qc5, qcb, qbw, qbk, qa0, qb9, qbf, qay, qdl, qcc, qc9, qc3, qbi, qao, qb5, qa7, qa5, qaq, qah, qan, qa4, qa3, qas, qai, qad, qac, qab, qb0, qa2, qbn, qbz, qby, qa8, List.take_length, List.map_nil, List.drop_zero, List.drop_succ_cons, Nat.zero_add, Nat.add_zero, qba, qbb, qc6, qbm, qbl, qc8, qb4, qb7, qax, qa1, qar, qda, qbt, qdd, qcq, qal, qam, qag, qav, cond_true, cond_false, qc0, qdb, qc4, qdf, qdm, qcd, qdy, qde, qdc, ofA2, ofA3, ofA4, ofA6, packD, List.take_left, List.length_append, List.length_cons, List.length_nil, List.length_set, t31, RFt_loadR, RFt_app, qd5, List.cons_append, List.nil_append, Nat.add_assoc, Nat.reduceAdd, lay_aggsl, stampsD_length, st_s1, st_s2, st_l2, parts_st, tok_have, s27, qd7, hK, st_t0, qd5]); (first | with_reducible refine qdh ?_ | with_reducible refine qdj ?_ | with_reducible refine qdk ?_ | with_reducible refine qdt ?_ | with_reducible refine qdi ?_ | with_reducible refine qbr ?_ | with_reducible refine qc2 ?_ | with_reducible refine qa9 ?_ | with_reducible refine qdw ?_ | with_reducible refine qdx ?_ | with_reducible refine qdr ?_ | with_reducible refine qds ?_ | with_reducible refine qdv ?_ | with_reducible refine qdu ?_ | with_reducible refine qc1 ?_))))
  simp (disch := first | omega | assumption) only [qc7, qdg, qb1, qbc, qap, qb2, qce, Sum.elim_inl, Sum.elim_inr, Option.map_some, Option.map_none, Option.bind_some, Option.bind_none, Option.bind_eq_bind, qd0, qdz, qcz, qcr, qct, qcu, qcv, qcw, qcx, qcy, qcs, shl8, or8, shr8, qbu, qbs, qbp, qcn, qbo, qb3, qcp, qco, qbq, qa6, qaz, qat, qaj, qdq, qdo, qdn, qdp, qcf, qcg, qch, qci, qcj, qck, qcl, qcm, qd3, qd4, qd1, qd2, qaa, qbg, qbh, qau, qak, qae, qaf, qaw, qb6, qbv, qbe, qbx, qbd, qca, qbj, qb8, qc5, qcb, qbw, qbk, qa0, qb9, qbf, qay, qdl, qcc, qc9, qc3, qbi, qao, qb5, qa7, qa5, qaq, qah, qan, qa4, qa3, qas, qai, qad, qac, qab, qb0, qa2, qbn, qbz, qby, qa8, List.take_length, List.map_nil, List.drop_zero, List.drop_succ_cons, Nat.zero_add, Nat.add_zero, qba, qbb, qc6, qbm, qbl, qc8, qb4, qb7, qax, qa1, qar, qda, qbt, qdd, qcq, qal, qam, qag, qav, cond_true, cond_false, qc0, qdb, qc4, qdf, qdm, qcd, qdy, qde, qdc, ofA2, ofA3, ofA4, ofA6, packD, List.take_left, List.length_append, List.length_cons, List.length_nil, List.length_set, hK, st_t0, qd5, shutL_st, Nat.reduceAdd, qd7]
/-- no device -/
theorem s34_dev (A : St) (i0 : Nat) (fc : List D) (o : Own) (ho : o.shut A.length = o) (b : List UInt8) (hb : b.length ≤ 140737488355328) (n k i : Nat) (hk : k < n) (hn : n ≤ 256) (h : i + 10 ≤ b.length) (hd : ¬ num ((b.drop i).take 2) < 256) (v : Stamps) (m : Nat) :
    f34_s0 (Run Try.prog codecH) (Dcall Try.prog codecH) (RFt A fc o b i0 []) (Env.mk [.ref (A.length + 3) 0, D.any, D.any, .sl (.own (A.length + 4) 0) 2 (stampsD v), D.any, D.any, D.any, D.any, .int .i64 n, .int .i64 k, D.any, D.any, D.any, D.any, D.any, D.any, D.any, D.any, D.any, D.any, D.any, D.any, D.any, D.any, D.any, D.any, D.any, D.any, D.any, D.any, D.any, D.any, D.any, D.any, D.any, D.any, D.any, D.any, D.any, D.any, D.any, D.any, D.any, D.any, D.any, D.any, D.any, D.any, D.any, D.any, D.any, D.any, D.any, D.any, D.any] []) (RFt A fc o b i [.tok m]) = some (.inr (.pan (faultD i 180), RFt A fc o b (i + 10) [])) := by
  unfold f34_s0
  have t31 : ∀ T, Run Try.prog codecH 31 [.ref (A.length + 3) 0, .int .i64 10] (RFt A fc o b i T) = _ := fun T => g31t A fc o ho b T i 10 (by omega) h
  have hl : ((b.drop i).take 10).length = 10 := by rw [List.length_take, List.length_drop]; omega
  have i2 : ∀ m T, Run Try.prog codecH 28 [.ref (A.length + 5) 0, .int .i64 2] (RFt A fc o b (i + 10) (.tok m :: .cells [.sl .full 1 (strBytes ((b.drop i).take 10)), .int .i64 i] :: T)) = _ := fun m T => h28 A fc o b (i + 10) m ((b.drop i).take 10) i 2 T (by omega) (by omega) (by omega)
  have i8 : ∀ m T, Run Try.prog codecH 28 [.ref (A.length + 5) 0, .int .i64 8] (RFt A fc o b (i + 10) (.tok m :: .cells [.sl .full 1 (strBytes (((b.drop i).take 10).drop 2)), .int .i64 ((i + 2 : Nat) : Int)] :: T)) = _ := fun m T => h28 A fc o b (i + 10) m (((b.drop i).take 10).drop 2) (i + 2) 8 T (by omega) (by rw [List.length_drop]; omega) (by omega)
  have e2 : ((b.drop i).take 10).take 2 = (b.drop i).take 2 := by rw [List.take_take]; rfl
  have e8 : (((b.drop i).take 10).drop 2).take 8 = (b.drop (i + 2)).take 8 := by rw [List.drop_take, List.take_take, List.drop_drop]; rfl
  rw [e2] at i2
  rw [e8] at i8
  have k2 := num_le2 ((b.drop i).take 2) (by simp; omega)
  have hK := fun j U => st_K0 A fc o ho b i0 j U
  (repeat (first | (first | with_reducible refine qdh ?_ | with_reducible refine qdj ?_ | with_reducible refine qdk ?_ | with_reducible refine qdt ?_ | with_reducible refine qdi ?_ | with_reducible refine qbr ?_ | with_reducible refine qc2 ?_ | with_reducible refine qa9 ?_ | with_reducible refine qdw ?_ | with_reducible refine qdx ?_ | with_reducible refine qdr ?_ | with_reducible refine qds ?_ | with_reducible refine qdv ?_ | with_reducible refine qdu ?_ | with_reducible refine qc1 ?_) | ((conv => lhs; arg 1; simp (disch := first | omega | assumption) only [qc7, qdg, qb1, qbc, qap, qb2, qce, Sum.elim_inl, Sum.elim_inr, Option.map_some, Option.map_none, Option.bind_some, Option.bind_none, Option.bind_eq_bind, qd0, qdz, qcz, qcr, qct, qcu, qcv, qcw, qcx, qcy, qcs, shl8, or8, shr8, qbu, qbs, qbp, qcn, qbo, qb3, qcp, qco, qbq, qa6, qaz, qat, qaj, qdq, qdo, qdn, qdp, qcf, qcg, qch, qci, qcj, qck, qcl, qcm, qd3, qd4, qd1, qd2, qaa, qbg, qbh, qau, qak, qae, qaf, qaw, qb6, qbv, qbe, qbx, qbd, qca, qbj, qb8, qc5, qcb, qbw, qbk, qa0, qb9, qbf, qay, qdl, qcc, qc9, qc3, qbi, qao, qb5, qa7, qa5, qaq, qah, qan, qa4, qa3, qas, qai, qad, qac, qab, qb0, qa2, qbn, qbz, qby, qa8, List.take_length, List.map_nil, List.drop_zero, List.drop_succ_cons, Nat.zero_add, Nat.add_zero, qba, qbb, qc6, qbm, qbl, qc8, qb4, qb7, qax, qa1, qar, qda, qbt, qdd, qcq, qal, qam, qag, qav, cond_true, cond_false, qc0, qdb, qc4, qdf, qdm, qcd, qdy, qde, qdc, ofA2, ofA3, ofA4, ofA6, packD, List.take_left, List.length_append, List.length_cons, List.length_nil, List.length_set, t31, i2, i8, RFt_loadR, RFt_app, qd5, List.cons_append, List.nil_append, Nat.add_assoc, Nat.reduceAdd, lay_aggsl, stampsD_length, st_s1, st_s2, st_l2, parts_st, tok_have, s27, qd7, hK, st_t0, qd5]); (first | with_reducible refine qdh ?_ | with_reducible refine qdj ?_ | with_reducible refine qdk ?_ | with_reducible refine qdt ?_ | with_reducible refine qdi ?_ | with_reducible refine qbr ?_ | with_reducible refine qc2 ?_ | with_reducible refine qa9 ?_ | with_reducible refine qdw ?_ | with_reducible refine qdx ?_ | with_reducible refine qdr ?_ | with_reducible refine qds ?_ | with_reducible refine qdv ?_ | with_reducible refine qdu ?_ | with_reducible refine qc1 ?_))))
  simp (disch := first | omega | assumption) only [qc7, qdg, qb1, qbc, qap, qb2, qce, Sum.elim_inl, Sum.elim_inr, Option.map_some, Option.map_none, Option.bind_some, Option.bind_none, Option.bind_eq_bind, qd0, qdz, qcz, qcr, qct, qcu, qcv, qcw, qcx, qcy, qcs, shl8, or8, shr8, qbu, qbs, qbp, qcn, qbo, qb3, qcp, qco, qbq, qa6, qaz, qat, qaj, qdq, qdo, qdn, qdp, qcf, qcg, qch, qci, qcj, qck, qcl, qcm, qd3, qd4, qd1, qd2, qaa, qbg, qbh, qau, qak, qae, qaf, qaw, qb6, qbv, qbe, qbx, qbd, qca, qbj, qb8, qc5, qcb, qbw, qbk, qa0, qb9, qbf, qay, qdl, qcc, qc9, qc3, qbi, qao, qb5, qa7, qa5, qaq, qah, qan, qa4, qa3, qas, qai, qad, qac, qab, qb0, qa2, qbn, qbz, qby, qa8, List.take_length, List.map_nil, List.drop_zero, List.drop_succ_cons, Nat.zero_add, Nat.add_zero, qba, qbb, qc6, qbm, qbl, qc8, qb4, qb7, qax, qa1, qar, qda, qbt, qdd, qcq, qal, qam, qag, qav, cond_true, cond_false, qc0, qdb, qc4, qdf, qdm, qcd, qdy, qde, qdc, ofA2, ofA3, ofA4, ofA6, packD, List.take_left, List.length_append, List.length_cons, List.length_nil, List.length_set, hK, st_t0, qd5, shutL_st, Nat.reduceAdd, qd7]
/-- a device that does not rise -/
theorem s34_fall (A : St) (i0 : Nat) (fc : List D) (o : Own) (ho : o.shut A.length = o) (b : List UInt8) (hb : b.length ≤ 140737488355328) (n k i : Nat) (hk : k < n) (hn : n ≤ 256) (h : i + 10 ≤ b.length) (hd : num ((b.drop i).take 2) < 256) (v : Stamps) (hv0 : 0 < v.length) (hv : v.length ≤ 256) (hq : ¬ v[v.length - 1].1 < (num ((b.drop i).take 2) : Int)) (m : Nat) :
    f34_s0 (Run Try.prog codecH) (Dcall Try.prog codecH) (RFt A fc o b i0 []) (Env.mk [.ref (A.length + 3) 0, D.any, D.any, .sl (.own (A.length + 4) 0) 2 (stampsD v), D.any, D.any, D.any, D.any, .int .i64 n, .int .i64 k, D.any, D.any, D.any, D.any, D.any, D.any, D.any, D.any, D.any, D.any, D.any, D.any, D.any, D.any, D.any, D.any, D.any, D.any, D.any, D.any, D.any, D.any, D.any, D.any, D.any, D.any, D.any, D.any, D.any, D.any, D.any, D.any, D.any, D.any, D.any, D.any, D.any, D.any, D.any, D.any, D.any, D.any, D.any, D.any, D.any] []) (RFt A fc o b i [.tok m]) = some (.inr (.pan (faultD i 180), RFt A fc o b (i + 10) [])) := by
  unfold f34_s0
  have t31 : ∀ T, Run Try.prog codecH 31 [.ref (A.length + 3) 0, .int .i64 10] (RFt A fc o b i T) = _ := fun T => g31t A fc o ho b T i 10 (by omega) h
  have hl : ((b.drop i).take 10).length = 10 := by rw [List.length_take, List.length_drop]; omega
  have i2 : ∀ m T, Run Try.prog codecH 28 [.ref (A.length + 5) 0, .int .i64 2] (RFt A fc o b (i + 10) (.tok m :: .cells [.sl .full 1 (strBytes ((b.drop i).take 10)), .int .i64 i] :: T)) = _ := fun m T => h28 A fc o b (i + 10) m ((b.drop i).take 10) i 2 T (by omega) (by omega) (by omega)
  have i8 : ∀ m T, Run Try.prog codecH 28 [.ref (A.length + 5) 0, .int .i64 8] (RFt A fc o b (i + 10) (.tok m :: .cells [.sl .full 1 (strBytes (((b.drop i).take 10).drop 2)), .int .i64 ((i + 2 : Nat) : Int)] :: T)) = _ := fun m T => h28 A fc o b (i + 10) m (((b.drop i).take 10).drop 2) (i + 2) 8 T (by omega) (by rw [List.length_drop]; omega) (by omega)
  have e2 : ((b.drop i).take 10).take 2 = (b.drop i).take 2 := by rw [List.take_take]; rfl
  have e8 : (((b.drop i).take 10).drop 2).take 8 = (b.drop (i + 2)).take 8 := by rw [List.drop_take, List.take_take, List.drop_drop]; rfl
  rw [e2] at i2
  rw [e8] at i8
  have k2 := num_le2 ((b.drop i).take 2) (by simp; omega)
  have hix : ∀ o, indexAddrO 2 true (.sl o 2 (stampsD v)) (.int .i64 ((v.length : Int) - 1)) = some (.peek [.int .i64 v[v.length - 1].1, .int .u64 v[v.length - 1].2]) := fun o => by
    have := index_st o v (v.length - 1) .i64 (by omega)
    rw [show ((v.length - 1 : Nat) : Int) = (v.length : Int) - 1 by omega] at this
    exact this
  have hK := fun j U => st_K0 A fc o ho b i0 j U
  (repeat (first | (first | with_reducible refine qdh ?_ | with_reducible refine qdj ?_ | with_reducible refine qdk ?_ | with_reducible refine qdt ?_ | with_reducible refine qdi ?_ | with_reducible refine qbr ?_ | with_reducible refine qc2 ?_ | with_reducible refine qa9 ?_ | with_reducible refine qdw ?_ | with_reducible refine qdx ?_ | with_reducible refine qdr ?_ | with_reducible refine qds ?_ | with_reducible refine qdv ?_ | with_reducible refine qdu ?_ | with_reducible refine qc1 ?_) | ((conv => lhs; arg 1; simp (disch := first | omega | assumption) only [qc7, qdg, qb1, qbc, qap, qb2, qce, Sum.elim_inl, Sum.elim_inr, Option.map_some, Option.map_none, Option.bind_some, Option.bind_none, Option.bind_eq_bind, qd0, qdz, qcz, qcr, qct, qcu, qcv, qcw, qcx, qcy, qcs, shl8, or8, shr8, qbu, qbs, qbp, qcn, qbo, qb3, qcp, qco, qbq, qa6, qaz, qat, qaj, qdq, qdo, qdn, qdp, qcf, qcg, qch, qci, qcj, qck, qcl, qcm, qd3, qd4, qd1, qd2, qaa, qbg, qbh, qau, qak, qae, qaf, qaw, qb6, qbv, qbe, qbx, qbd, qca, qbj, qb8, qc5, qcb, qbw, qbk, qa0, qb9, qbf, qay, qdl, qcc, qc9, qc3, qbi, qao, qb5, qa7, qa5, qaq, qah, qan, qa4, qa3, qas, qai, qad, qac, qab, qb0, qa2, qbn, qbz, qby, qa8, List.take_length, List.map_nil, List.drop_zero, List.drop_succ_cons, Nat.zero_add, Nat.add_zero, qba, qbb, qc6, qbm, qbl, qc8, qb4, qb7, qax, qa1, qar, qda, qbt, qdd, qcq, qal, qam, qag, qav, cond_true, cond_false, qc0, qdb, qc4, qdf, qdm, qcd, qdy, qde, qdc, ofA2, ofA3, ofA4, ofA6, packD, List.take_left, List.length_append, List.length_cons, List.length_nil, List.length_set, t31, i2, i8, RFt_loadR, RFt_app, qd5, List.cons_append, List.nil_append, Nat.add_assoc, Nat.reduceAdd, lay_aggsl, stampsD_length, st_s1, st_s2, st_l2, parts_st, tok_have, s27, qd7, hK, st_t0, qd5, hix]); (first | with_reducible refine qdh ?_ | with_reducible refine qdj ?_ | with_reducible refine qdk ?_ | with_reducible refine qdt ?_ | with_reducible refine qdi ?_ | with_reducible refine qbr ?_ | with_reducible refine qc2 ?_ | with_reducible refine qa9 ?_ | with_reducible refine qdw ?_ | with_reducible refine qdx ?_ | with_reducible refine qdr ?_ | with_reducible refine qds ?_ | with_reducible refine qdv ?_ | with_reducible refine qdu ?_ | with_reducible refine qc1 ?_))))
  simp (disch := first | omega | assumption) only [qc7, qdg, qb1, qbc, qap, qb2, qce, Sum.elim_inl, Sum.elim_inr, Option.map_some, Option.map_none, Option.bind_some, Option.bind_none, Option.bind_eq_bind, qd0, qdz, qcz, qcr, qct, qcu, qcv, qcw, qcx, qcy, qcs, shl8, or8, shr8, qbu, qbs, qbp, qcn, qbo, qb3, qcp, qco, qbq, qa6, qaz, qat, qaj, qdq, qdo, qdn, qdp, qcf, qcg, qch, qci, qcj, qck, qcl, qcm, qd3, qd4, qd1, qd2, qaa, qbg, qbh, qau, qak, qae, qaf, qaw, qb6, qbv, qbe, qbx, qbd, qca, qbj, qb8, qc5, qcb, qbw, qbk, qa0, qb9, qbf, qay, qdl, qcc, qc9, qc3, qbi, qao, qb5, qa7, qa5, qaq, qah, qan, qa4, qa3, qas, qai, qad, qac, qab, qb0, qa2, qbn, qbz, qby, qa8, List.take_length, List.map_nil, List.drop_zero, List.drop_succ_cons, Nat.zero_add, Nat.add_zero, qba, qbb, qc6, qbm, qbl, qc8, qb4, qb7, qax, qa1, qar, qda, qbt, qdd, qcq, qal, qam, qag, qav, cond_true, cond_false, qc0, qdb, qc4, qdf, qdm, qcd, qdy, qde, qdc, ofA2, ofA3, ofA4, ofA6, packD, List.take_left, List.length_append, List.length_cons, List.length_nil, List.length_set, hK, st_t0, qd5, shutL_st, Nat.reduceAdd, qd7]
end Go.Vm.Codec

/- What the codec's reader of stamps comes to, all of it. -/
namespace Go.Vm.Codec
open Go.Proofs
set_option linter.unusedVariables false
set_option linter.unusedSimpArgs false
set_option maxRecDepth 10000
set_option maxHeartbeats 4000000
theorem lastOk_pos (v : Stamps) (d : Nat) (h : 0 < v.length) : lastOk v d = decide (v[v.length - 1].1 < (d : Int)) := by
  unfold lastOk
  rw [List.getLast?_eq_getElem?, List.getElem?_eq_getElem (by omega)]
def pRes34 (A : St) (fc : List D) (o : Own) (b : List UInt8) : Except (Nat × Nat) (Stamps × Nat) → Res × St
  | .ok (v, j) => (.ret (.sl .sh 2 (stampsD v)), RFt A fc o b j [])
  | .error (p, j) => (.pan (faultD p 180), RFt A fc o b j [])
theorem s34_loop (A : St) (i0 : Nat) (fc : List D) (o : Own) (ho : o.shut A.length = o) (b : List UInt8) (hb : b.length ≤ 140737488355328) (n : Nat) (hn : n ≤ 256) : ∀ (m k i : Nat) (v : Stamps), k + m = n → v.length ≤ k → i ≤ b.length →
    iterK (f34_s0 (Run Try.prog codecH) (Dcall Try.prog codecH) (RFt A fc o b i0 [])) (Env.mk [.ref (A.length + 3) 0, D.any, D.any, .sl (.own (A.length + 4) 0) 2 (stampsD v), D.any, D.any, D.any, D.any, .int .i64 n, .int .i64 k, D.any, D.any, D.any, D.any, D.any, D.any, D.any, D.any, D.any, D.any, D.any, D.any, D.any, D.any, D.any, D.any, D.any, D.any, D.any, D.any, D.any, D.any, D.any, D.any, D.any, D.any, D.any, D.any, D.any, D.any, D.any, D.any, D.any, D.any, D.any, D.any, D.any, D.any, D.any, D.any, D.any, D.any, D.any, D.any, D.any] []) (RFt A fc o b i [.tok v.length]) = some (pRes34 A fc o b (pSt b m i v)) := by
  intro m
  induction m with
  | zero =>
    intro k i v hk hv hi
    obtain rfl : k = n := by omega
    rw [qd6, s34_end A i0 fc o ho b k i v v.length]
    rfl
  | succ m ih =>
    intro k i v hk hv hi
    unfold pSt
    by_cases h : i + 10 ≤ b.length
    · rw [if_pos h]
      by_cases hd : num ((b.drop i).take 2) < 256
      · by_cases hv0 : 0 < v.length
        · rw [lastOk_pos v _ hv0]
          by_cases hq : v[v.length - 1].1 < (num ((b.drop i).take 2) : Int)
          · rw [if_pos ⟨hd, by simpa using hq⟩, qd6, s34_next A i0 fc o ho b hb n k i (by omega) hn h hd v hv0 (by omega) hq]
            have := ih (k + 1) (i + 10) (v ++ [((num ((b.drop i).take 2) : Int), num ((b.drop (i + 2)).take 8))]) (by omega) (by simp; omega) (by omega)
            rw [List.length_append] at this
            exact this
          · rw [if_neg (by rintro ⟨_, h2⟩; exact hq (by simpa using h2)), qd6, s34_fall A i0 fc o ho b hb n k i (by omega) hn h hd v hv0 (by omega) hq]
            rfl
        · obtain rfl : v = [] := List.length_eq_zero_iff.1 (by omega)
          rw [if_pos ⟨hd, rfl⟩, qd6, List.length_nil, s34_first A i0 fc o ho b hb n k i (by omega) hn h hd]
          exact ih (k + 1) (i + 10) _ (by omega) (by simp) (by omega)
      · rw [if_neg (fun h2 => hd h2.1), qd6, s34_dev A i0 fc o ho b hb n k i (by omega) hn h hd v]
        rfl
    · rw [if_neg h, qd6, s34_short A i0 fc o ho b hb n k i (by omega) hn h hi v]
      rfl
/-- a vector from a place on -/
def pVec (b : List UInt8) (i : Nat) : Except (Nat × Nat) (Stamps × Nat) :=
  if i + 2 ≤ b.length then if num ((b.drop i).take 2) ≤ 256 then pSt b (num ((b.drop i).take 2)) (i + 2) [] else .error (i, i + 2) else .error (i, i)
theorem s34 (A : St) (fc : List D) (o : Own) (ho : o.shut A.length = o) (b : List UInt8) (hb : b.length ≤ 140737488355328) (i : Nat) (hi : i ≤ b.length) :
    Run Try.prog codecH 34 [.ref (A.length + 3) 0] (RFt A fc o b i []) = some (pRes34 A fc o b (pVec b i)) := by
  rw [r34]
  unfold f34 pVec
  have hK := fun j U => st_K0 A fc o ho b i j U
  have htok : tokO [(0, 2)] (.sl .full 0 []) (RFt A fc o b i []) = some (.sl (.own (A.length + 4) 0) 2 (stampsD []), RFt A fc o b i [.tok 0]) := by
    rw [qc4, qd5, RFt_app]; rfl
  by_cases h : i + 2 ≤ b.length
  · rw [if_pos h]
    by_cases hm : num ((b.drop i).take 2) ≤ 256
    · have hw : ∀ T, Run Try.prog codecH 29 [.ref (A.length + 3) 0, .int .i64 2, .int .u64 256] (RFt A fc o b i T) = _ := fun T => g29t A fc o ho b T i 2 (by omega) h (by omega) 256 hm
      rw [if_pos hm]
      simp only [htok, hw, qc7, qdg, qb1, qbc, qap, qb2, qce, Sum.elim_inl, Sum.elim_inr, Option.map_some, Option.map_none, Option.bind_some, Option.bind_none, Option.bind_eq_bind, qd0, qdz, qcz, qcr, qct, qcu, qcv, qcw, qcx, qcy, qcs, shl8, or8, shr8, qbu, qbs, qbp, qcn, qbo, qb3, qcp, qco, qbq, qa6, qaz, qat, qaj, qdq, qdo, qdn, qdp, qcf, qcg, qch, qci, qcj, qck, qcl, qcm, qd3, qd4, qd1, qd2, qaa, qbg, qbh, qau, qak, qae, qaf, qaw, qb6, qbv, qbe, qbx, qbd, qca, qbj, qb8, qc5, qcb, qbw, qbk, qa0, qb9, qbf, qay, qdl, qcc, qc9, qc3, qbi, qao, qb5, qa7, qa5, qaq, qah, qan, qa4, qa3, qas, qai, qad, qac, qab, qb0, qa2, qbn, qbz, qby, qa8, List.take_length, List.map_nil, List.drop_zero, List.drop_succ_cons, Nat.zero_add, Nat.add_zero, qba, qbb, qc6, qbm, qbl, qc8, qb4, qb7, qax, qa1, qar, qda, qbt, qdd, qcq, qal, qam, qag, qav, cond_true, cond_false, qc0, qdb, qc4, qdf, qdm, qcd, qdy, qde, qdc, ofA2, ofA3, ofA4, ofA6, packD, List.take_left, List.length_append, List.length_cons, List.length_nil, List.length_set]
      exact s34_loop A i fc o ho b hb _ hm _ 0 (i + 2) [] (by omega) (by simp) h
    · have hw : ∀ T, Run Try.prog codecH 29 [.ref (A.length + 3) 0, .int .i64 2, .int .u64 256] (RFt A fc o b i T) = _ := fun T => g29t_much A fc o ho b T i 2 (by omega) h (by omega) 256 hm
      rw [if_neg hm]
      simp only [htok, hw, qc7, qdg, qb1, qbc, qap, qb2, qce, Sum.elim_inl, Sum.elim_inr, Option.map_some, Option.map_none, Option.bind_some, Option.bind_none, Option.bind_eq_bind, qd0, qdz, qcz, qcr, qct, qcu, qcv, qcw, qcx, qcy, qcs, shl8, or8, shr8, qbu, qbs, qbp, qcn, qbo, qb3, qcp, qco, qbq, qa6, qaz, qat, qaj, qdq, qdo, qdn, qdp, qcf, qcg, qch, qci, qcj, qck, qcl, qcm, qd3, qd4, qd1, qd2, qaa, qbg, qbh, qau, qak, qae, qaf, qaw, qb6, qbv, qbe, qbx, qbd, qca, qbj, qb8, qc5, qcb, qbw, qbk, qa0, qb9, qbf, qay, qdl, qcc, qc9, qc3, qbi, qao, qb5, qa7, qa5, qaq, qah, qan, qa4, qa3, qas, qai, qad, qac, qab, qb0, qa2, qbn, qbz, qby, qa8, List.take_length, List.map_nil, List.drop_zero, List.drop_succ_cons, Nat.zero_add, Nat.add_zero, qba, qbb, qc6, qbm, qbl, qc8, qb4, qb7, qax, qa1, qar, qda, qbt, qdd, qcq, qal, qam, qag, qav, cond_true, cond_false, qc0, qdb, qc4, qdf, qdm, qcd, qdy, qde, qdc, ofA2, ofA3, ofA4, ofA6, packD, List.take_left, List.length_append, List.length_cons, List.length_nil, List.length_set]
      simp (disch := first | omega | assumption) only [qc7, qdg, qb1, qbc, qap, qb2, qce, Sum.elim_inl, Sum.elim_inr, Option.map_some, Option.map_none, Option.bind_some, Option.bind_none, Option.bind_eq_bind, qd0, qdz, qcz, qcr, qct, qcu, qcv, qcw, qcx, qcy, qcs, shl8, or8, shr8, qbu, qbs, qbp, qcn, qbo, qb3, qcp, qco, qbq, qa6, qaz, qat, qaj, qdq, qdo, qdn, qdp, qcf, qcg, qch, qci, qcj, qck, qcl, qcm, qd3, qd4, qd1, qd2, qaa, qbg, qbh, qau, qak, qae, qaf, qaw, qb6, qbv, qbe, qbx, qbd, qca, qbj, qb8, qc5, qcb, qbw, qbk, qa0, qb9, qbf, qay, qdl, qcc, qc9, qc3, qbi, qao, qb5, qa7, qa5, qaq, qah, qan, qa4, qa3, qas, qai, qad, qac, qab, qb0, qa2, qbn, qbz, qby, qa8, List.take_length, List.map_nil, List.drop_zero, List.drop_succ_cons, Nat.zero_add, Nat.add_zero, qba, qbb, qc6, qbm, qbl, qc8, qb4, qb7, qax, qa1, qar, qda, qbt, qdd, qcq, qal, qam, qag, qav, cond_true, cond_false, qc0, qdb, qc4, qdf, qdm, qcd, qdy, qde, qdc, ofA2, ofA3, ofA4, ofA6, packD, List.take_left, List.length_append, List.length_cons, List.length_nil, List.length_set, hK, st_t0, qd5, qd7, List.length_nil, Nat.zero_add, pRes34]
  · have hw : ∀ T, Run Try.prog codecH 29 [.ref (A.length + 3) 0, .int .i64 2, .int .u64 256] (RFt A fc o b i T) = _ := fun T => g29t_pan A fc o ho b T i 2 h hi (by omega) 256
    rw [if_neg h]
    simp only [htok, hw, qc7, qdg, qb1, qbc, qap, qb2, qce, Sum.elim_inl, Sum.elim_inr, Option.map_some, Option.map_none, Option.bind_some, Option.bind_none, Option.bind_eq_bind, qd0, qdz, qcz, qcr, qct, qcu, qcv, qcw, qcx, qcy, qcs, shl8, or8, shr8, qbu, qbs, qbp, qcn, qbo, qb3, qcp, qco, qbq, qa6, qaz, qat, qaj, qdq, qdo, qdn, qdp, qcf, qcg, qch, qci, qcj, qck, qcl, qcm, qd3, qd4, qd1, qd2, qaa, qbg, qbh, qau, qak, qae, qaf, qaw, qb6, qbv, qbe, qbx, qbd, qca, qbj, qb8, qc5, qcb, qbw, qbk, qa0, qb9, qbf, qay, qdl, qcc, qc9, qc3, qbi, qao, qb5, qa7, qa5, qaq, qah, qan, qa4, qa3, qas, qai, qad, qac, qab, qb0, qa2, qbn, qbz, qby, qa8, List.take_length, List.map_nil, List.drop_zero, List.drop_succ_cons, Nat.zero_add, Nat.add_zero, qba, qbb, qc6, qbm, qbl, qc8, qb4, qb7, qax, qa1, qar, qda, qbt, qdd, qcq, qal, qam, qag, qav, cond_true, cond_false, qc0, qdb, qc4, qdf, qdm, qcd, qdy, qde, qdc, ofA2, ofA3, ofA4, ofA6, packD, List.take_left, List.length_append, List.length_cons, List.length_nil, List.length_set]
    simp (disch := first | omega | assumption) only [qc7, qdg, qb1, qbc, qap, qb2, qce, Sum.elim_inl, Sum.elim_inr, Option.map_some, Option.map_none, Option.bind_some, Option.bind_none, Option.bind_eq_bind, qd0, qdz, qcz, qcr, qct, qcu, qcv, qcw, qcx, qcy, qcs, shl8, or8, shr8, qbu, qbs, qbp, qcn, qbo, qb3, qcp, qco, qbq, qa6, qaz, qat, qaj, qdq, qdo, qdn, qdp, qcf, qcg, qch, qci, qcj, qck, qcl, qcm, qd3, qd4, qd1, qd2, qaa, qbg, qbh, qau, qak, qae, qaf, qaw, qb6, qbv, qbe, qbx, qbd, qca, qbj, qb8, qc5, qcb, qbw, qbk, qa0, qb9, qbf, qay, qdl, qcc, qc9, qc3, qbi, qao, qb5, qa7, qa5, qaq, qah, qan, qa4, qa3, qas, qai, qad, qac, qab, qb0, qa2, qbn, qbz, qby, qa8, List.take_length, List.map_nil, List.drop_zero, List.drop_succ_cons, Nat.zero_add, Nat.add_zero, qba, qbb, qc6, qbm, qbl, qc8, qb4, qb7, qax, qa1, qar, qda, qbt, qdd, qcq, qal, qam, qag, qav, cond_true, cond_false, qc0, qdb, qc4, qdf, qdm, qcd, qdy, qde, qdc, ofA2, ofA3, ofA4, ofA6, packD, List.take_left, List.length_append, List.length_cons, List.length_nil, List.length_set, hK, st_t0, qd5, qd7, List.length_nil, Nat.zero_add, pRes34]
end Go.Vm.Codec
