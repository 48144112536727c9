/- CodecS5, CodecS6 in one text. -/
import Derived.Test.YtkhcbemdcehkdaaCodecS4
set_option linter.all false
/- The deferred calls of the codec's readers. -/
namespace Go.Vm.Codec
open Go.Proofs
set_option linter.unusedVariables false
set_option linter.unusedSimpArgs false
set_option maxRecDepth 10000
set_option maxHeartbeats 1000000

/-- the three results as they lie above the old part -/
def lay (A : St) (fc : List D) (x y : Int) (T : St) : St := A ++ (.cells fc :: .cells [.int .i64 x] :: .cells [.int .i64 y] :: T)
theorem lay_length (A : St) (fc : List D) (x y : Int) (T : St) : (lay A fc x y T).length = A.length + (T.length + 3) := by simp [lay]
theorem lay_load0 (A : St) (fc : List D) (x y : Int) (T : St) (g : Bool) (n off : Nat) : loadO g n (.ref A.length off) (lay A fc x y T) = ofCells g fc off n := load_ref (by unfold lay; rw [get_app _ _ _ 0 (by omega)]; rfl)
theorem lay_load1 (A : St) (fc : List D) (x y : Int) (T : St) (g : Bool) (n off : Nat) : loadO g n (.ref (A.length + 1) off) (lay A fc x y T) = ofCells g [.int .i64 x] off n := load_ref (by unfold lay; rw [get_app _ _ _ 1 (by omega)]; rfl)
theorem lay_load2 (A : St) (fc : List D) (x y : Int) (T : St) (g : Bool) (n off : Nat) : loadO g n (.ref (A.length + 2) off) (lay A fc x y T) = ofCells g [.int .i64 y] off n := load_ref (by unfold lay; rw [get_app _ _ _ 2 (by omega)]; rfl)
theorem set_app (A L : St) (i : Nat) (s : Slot) (j : Nat) (h : j = A.length + i) : (A ++ L).set j s = A ++ L.set i s := by
  subst h
  rw [List.set_append_right _ _ (by omega)]
  congr 2; omega
theorem lay_store1 (A : St) (fc : List D) (x y x' : Int) (T : St) : storeO false 1 (.ref (A.length + 1) 0) (.int .i64 x') (lay A fc x y T) = some (lay A fc x' y T) := by
  rw [storeO1 (cs := [.int .i64 x]) (by unfold lay; rw [get_app _ _ _ 1 (by omega)]; rfl) rfl (by simp)]
  unfold lay
  rw [set_app _ _ 1 _ _ rfl]; rfl
theorem lay_store2 (A : St) (fc : List D) (x y y' : Int) (T : St) : storeO false 1 (.ref (A.length + 2) 0) (.int .i64 y') (lay A fc x y T) = some (lay A fc x y' T) := by
  rw [storeO1 (cs := [.int .i64 y]) (by unfold lay; rw [get_app _ _ _ 2 (by omega)]; rfl) rfl (by simp)]
  unfold lay
  rw [set_app _ _ 2 _ _ rfl]; rfl
theorem lay_storeA (A : St) (fc vs : List D) (x y : Int) (T : St) (n : Nat) (hv : allCells vs = true) (hn : Nat.beq vs.length n = true) (hc : Nat.beq fc.length n = true) : storeO true n (.ref A.length 0) (.agg vs) (lay A fc x y T) = some (lay A vs x y T) := by
  rw [storeA (cs := fc) (by unfold lay; rw [get_app _ _ _ 0 (by omega)]; rfl) hv hn hc]
  unfold lay
  rw [set_app _ _ 0 _ _ (by omega)]; rfl
theorem lay_app (A : St) (fc : List D) (x y : Int) (T : St) (s : Slot) : lay A fc x y T ++ [s] = lay A fc x y (T ++ [s]) := by simp [lay]
theorem lay_loadT (A : St) (fc : List D) (x y : Int) (T : St) (cs : List D) (g : Bool) (n off : Nat) : loadO g n (.ref (A.length + (T.length + 3)) off) (lay A fc x y (T ++ [.cells cs])) = ofCells g cs off n := load_ref (by
  unfold lay; rw [get_app _ _ _ (T.length + 3) (by omega)]
  simp)
theorem lay_storeT (A : St) (fc : List D) (x y : Int) (T : St) (a b : D) (vs : List D) (hv : allCells vs = true) (hn : Nat.beq vs.length 2 = true) : storeO true 2 (.ref (A.length + (T.length + 3)) 0) (.agg vs) (lay A fc x y (T ++ [.cells [a, b]])) = some (lay A fc x y (T ++ [.cells vs])) := by
  rw [storeA (cs := [a, b]) (by unfold lay; rw [get_app _ _ _ (T.length + 3) (by omega)]; simp) hv hn rfl]
  unfold lay
  rw [set_app _ _ (T.length + 3) _ _ rfl]
  simp
theorem lay_take (A : St) (fc fc' : List D) (x y x' y' : Int) (T U : St) : (lay A fc' x' y' (T ++ U)).take (A.length + (T.length + 3)) = lay A fc' x' y' T := by
  have : lay A fc' x' y' (T ++ U) = lay A fc' x' y' T ++ U := by simp [lay]
  rw [this, show A.length + (T.length + 3) = (lay A fc' x' y' T).length by simp [lay]]
  exact List.take_left
theorem Kept_lay (A : St) (fc fc' : List D) (x y x' y' : Int) (T U : St) (h : fc' = fc ∨ D.shutL (A.length + (T.length + 3)) fc' = fc') : Kept (lay A fc x y T) (lay A fc' x' y' (T ++ U)) := by
  refine ⟨by simp [lay], fun k hk => ?_⟩
  rw [lay_length] at hk ⊢
  by_cases h1 : k < A.length
  · left; unfold lay; rw [List.getElem?_append_left h1, List.getElem?_append_left h1]
  · obtain ⟨i, rfl⟩ : ∃ i, k = A.length + i := ⟨k - A.length, by omega⟩
    unfold lay
    rw [get_app _ _ _ i rfl, get_app _ _ _ i rfl]
    match i with
    | 0 =>
      rcases h with rfl | h
      · exact .inl rfl
      · exact .inr ⟨_, rfl, by simp [h]⟩
    | 1 => exact .inr ⟨_, rfl, by simp⟩
    | 2 => exact .inr ⟨_, rfl, by simp⟩
    | i + 3 =>
      left
      simp only [List.getElem?_cons_succ]
      rw [List.getElem?_append_left (by omega)]
theorem sameAd_lay (A : St) (fc fc' : List D) (x y x' y' : Int) (T : St) (s : Slot) (off : Nat) : sameAd (.ref (A.length + (T.length + 3)) off) (lay A fc x y (T ++ [s])) (lay A fc' x' y' (T ++ [s])) ↔ True := by
  refine iff_true_intro ?_
  show _ = _
  unfold lay
  rw [get_app _ _ _ (T.length + 3) (by omega), get_app _ _ _ (T.length + 3) (by omega)]
  simp
theorem neq_iface (l : Bool) (t : TypeId) (d : D) : binO .neq 1 l (.iface t d) (.val .nilIface) = some (.bool true) := rfl
theorem assert_iface (z : Option D) (t : TypeId) (d : D) : assertV z (.iface t d) t true = some (.tup [d, .bool true]) := by simp [assertV]
theorem extract0 (a : D) (r : List D) : extractD (.tup (a :: r)) 0 = some a := rfl
theorem extract1 (a b : D) (r : List D) : extractD (.tup (a :: b :: r)) 1 = some b := rfl
theorem extract2 (a b c : D) (r : List D) : extractD (.tup (a :: b :: c :: r)) 2 = some c := rfl
theorem un_not (b : Bool) : unD .not (.bool b) = some (.bool !b) := rfl
theorem s26 (A : St) (fc : List D) (x y : Int) (T : St) (p c : Int) :
    Dcall Try.prog codecH (.fn (.func 26) [] []) [.ref (A.length + 1) 0, .ref (A.length + 2) 0] (some (faultD p c)) (lay A fc x y T) = some (none, lay A fc p c T) := by
  rw [rd26p]
  unfold d26p faultD
  have hK := iff_true_intro (Kept_lay A fc fc x y p c T [.cells [.int .i64 p, .int .i64 c]] (.inl rfl))
  have ht := lay_take A fc fc x y p c T [.cells [.int .i64 p, .int .i64 c]]
  have hs := lay_storeT A fc x y T (.int .i64 0) (.int .i64 0) [.int .i64 p, .int .i64 c] rfl rfl
  simp only [qc7, qdg, qb1, qbc, qap, qb2, qce, Sum.elim_inl, Sum.elim_inr, Option.map_some, Option.map_none, Option.bind_some, Option.bind_none, Option.bind_eq_bind, qd0, qdz, qcz, qcr, qct, qcu, qcv, qcw, qcx, qcy, qcs, shl8, or8, shr8, qbu, qbs, qbp, qcn, qbo, qb3, qcp, qco, qbq, qa6, qaz, qat, qaj, qdq, qdo, qdn, qdp, qcf, qcg, qch, qci, qcj, qck, qcl, qcm, qd3, qd4, qd1, qd2, qaa, qbg, qbh, qau, qak, qae, qaf, qaw, qb6, qbv, qbe, qbx, qbd, qca, qbj, qb8, qc5, qcb, qbw, qbk, qa0, qb9, qbf, qay, qdl, qcc, qc9, qc3, qbi, qao, qb5, qa7, qa5, qaq, qah, qan, qa4, qa3, qas, qai, qad, qac, qab, qb0, qa2, qbn, qbz, qby, qa8, List.take_length, List.map_nil, List.drop_zero, List.drop_succ_cons, Nat.zero_add, Nat.add_zero, qba, qbb, qc6, qbm, qbl, qc8, qb4, qb7, qax, qa1, qar, qda, qbt, qdd, qcq, qal, qam, qag, qav, cond_true, cond_false, qc0, qdb, qc4, qdf, qdm, qcd, qdy, qde, qdc, ofA2, ofA3, ofA4, ofA6, packD, List.take_left, List.length_append, List.length_cons, List.length_nil, List.length_set, neq_iface, assert_iface, extract0, extract1, un_not, lay_length, lay_app, lay_loadT, lay_store1, lay_store2, sameAd_lay, hK, hs, ht, and_self, Bool.not_true]
theorem s26n (A : St) (fc : List D) (x y : Int) (T : St) :
    Dcall Try.prog codecH (.fn (.func 26) [] []) [.ref (A.length + 1) 0, .ref (A.length + 2) 0] none (lay A fc x y T) = some (none, lay A fc x y T) := by
  rw [rd26n]
  unfold d26n
  have hb : D.bool? (negIf true true) = some false := rfl
  simp only [qc7, qdg, qb1, qbc, qap, qb2, qce, Sum.elim_inl, Sum.elim_inr, Option.map_some, Option.map_none, Option.bind_some, Option.bind_none, Option.bind_eq_bind, qd0, qdz, qcz, qcr, qct, qcu, qcv, qcw, qcx, qcy, qcs, shl8, or8, shr8, qbu, qbs, qbp, qcn, qbo, qb3, qcp, qco, qbq, qa6, qaz, qat, qaj, qdq, qdo, qdn, qdp, qcf, qcg, qch, qci, qcj, qck, qcl, qcm, qd3, qd4, qd1, qd2, qaa, qbg, qbh, qau, qak, qae, qaf, qaw, qb6, qbv, qbe, qbx, qbd, qca, qbj, qb8, qc5, qcb, qbw, qbk, qa0, qb9, qbf, qay, qdl, qcc, qc9, qc3, qbi, qao, qb5, qa7, qa5, qaq, qah, qan, qa4, qa3, qas, qai, qad, qac, qab, qb0, qa2, qbn, qbz, qby, qa8, List.take_length, List.map_nil, List.drop_zero, List.drop_succ_cons, Nat.zero_add, Nat.add_zero, qba, qbb, qc6, qbm, qbl, qc8, qb4, qb7, qax, qa1, qar, qda, qbt, qdd, qcq, qal, qam, qag, qav, cond_true, cond_false, qc0, qdb, qc4, qdf, qdm, qcd, qdy, qde, qdc, ofA2, ofA3, ofA4, ofA6, packD, List.take_left, List.length_append, List.length_cons, List.length_nil, List.length_set, hb]
def zeroF : List D := [.int .u8 0, .int .u32 0, .int .u32 0, .int .u64 0, .int .u64 0, .sl .full 0 []]
theorem s25 (A : St) (fc : List D) (hf : Nat.beq fc.length 6 = true) (x y : Int) (T : St) :
    Dcall Try.prog codecH (.fn (.func 25) [] [.ref (A.length + 2) 0, .ref A.length 0]) [] none (lay A fc x y T) = some (none, if y = 0 then lay A fc x y T else lay A zeroF x y T) := by
  rw [rd25n]
  unfold d25n
  have hK := iff_true_intro (Kept_lay A fc zeroF x y x y T [] (.inr (by simp [zeroF])))
  have hs := lay_storeA A fc zeroF x y T 6 rfl rfl hf
  have ht := lay_take A fc zeroF x y x y T []
  rw [List.append_nil] at hK ht
  unfold zeroF at hK hs ht
  by_cases hy : y = 0
  · simp (disch := omega) only [qc7, qdg, qb1, qbc, qap, qb2, qce, Sum.elim_inl, Sum.elim_inr, Option.map_some, Option.map_none, Option.bind_some, Option.bind_none, Option.bind_eq_bind, qd0, qdz, qcz, qcr, qct, qcu, qcv, qcw, qcx, qcy, qcs, shl8, or8, shr8, qbu, qbs, qbp, qcn, qbo, qb3, qcp, qco, qbq, qa6, qaz, qat, qaj, qdq, qdo, qdn, qdp, qcf, qcg, qch, qci, qcj, qck, qcl, qcm, qd3, qd4, qd1, qd2, qaa, qbg, qbh, qau, qak, qae, qaf, qaw, qb6, qbv, qbe, qbx, qbd, qca, qbj, qb8, qc5, qcb, qbw, qbk, qa0, qb9, qbf, qay, qdl, qcc, qc9, qc3, qbi, qao, qb5, qa7, qa5, qaq, qah, qan, qa4, qa3, qas, qai, qad, qac, qab, qb0, qa2, qbn, qbz, qby, qa8, List.take_length, List.map_nil, List.drop_zero, List.drop_succ_cons, Nat.zero_add, Nat.add_zero, qba, qbb, qc6, qbm, qbl, qc8, qb4, qb7, qax, qa1, qar, qda, qbt, qdd, qcq, qal, qam, qag, qav, cond_true, cond_false, qc0, qdb, qc4, qdf, qdm, qcd, qdy, qde, qdc, ofA2, ofA3, ofA4, ofA6, packD, List.take_left, List.length_append, List.length_cons, List.length_nil, List.length_set, lay_load2, hy, if_true]
  · simp (disch := omega) only [qc7, qdg, qb1, qbc, qap, qb2, qce, Sum.elim_inl, Sum.elim_inr, Option.map_some, Option.map_none, Option.bind_some, Option.bind_none, Option.bind_eq_bind, qd0, qdz, qcz, qcr, qct, qcu, qcv, qcw, qcx, qcy, qcs, shl8, or8, shr8, qbu, qbs, qbp, qcn, qbo, qb3, qcp, qco, qbq, qa6, qaz, qat, qaj, qdq, qdo, qdn, qdp, qcf, qcg, qch, qci, qcj, qck, qcl, qcm, qd3, qd4, qd1, qd2, qaa, qbg, qbh, qau, qak, qae, qaf, qaw, qb6, qbv, qbe, qbx, qbd, qca, qbj, qb8, qc5, qcb, qbw, qbk, qa0, qb9, qbf, qay, qdl, qcc, qc9, qc3, qbi, qao, qb5, qa7, qa5, qaq, qah, qan, qa4, qa3, qas, qai, qad, qac, qab, qb0, qa2, qbn, qbz, qby, qa8, List.take_length, List.map_nil, List.drop_zero, List.drop_succ_cons, Nat.zero_add, Nat.add_zero, qba, qbb, qc6, qbm, qbl, qc8, qb4, qb7, qax, qa1, qar, qda, qbt, qdd, qcq, qal, qam, qag, qav, cond_true, cond_false, qc0, qdb, qc4, qdf, qdm, qcd, qdy, qde, qdc, ofA2, ofA3, ofA4, ofA6, packD, List.take_left, List.length_append, List.length_cons, List.length_nil, List.length_set, lay_load2, hs, hK, lay_length, ht, if_neg hy, zeroF]
end Go.Vm.Codec

/- What the codec's ReadFrame comes to. -/
namespace Go.Vm.Codec
open Go.Proofs
set_option linter.unusedVariables false
set_option linter.unusedSimpArgs false
set_option maxRecDepth 10000
set_option maxHeartbeats 2000000

theorem s30 (o : Own) (l : List UInt8) (A : St) (hl : l.length ≤ 140737488355328) : Run Try.prog codecH 30 [.sl o 1 (strBytes l)] A = some (.ret (.sl (if l.isEmpty then .full else .sh) 1 (strBytes l)), A) := by
  rw [Run_eqK (J := k30)]
  have e : codecH.ext 30 = some cloneX := rfl
  unfold bodyK
  rw [e]
  have : roomOk l.length 1 = true := by simp [roomOk]; omega
  unfold cloneX
  simp [esOk, this]
  cases l <;> rfl
theorem shut_mono {o : Own} {n m : Nat} (h : o.shut n = o) (hm : n ≤ m) : o.shut m = o := by
  cases o with
  | sh => rfl
  | full => rfl
  | own c s =>
    simp only [Own.shut] at h ⊢
    split at h
    · rw [if_pos (by omega)]
    · cases h
/-- the results, and a reader at a place of the bytes -/
def RFa (A : St) (fc : List D) (o : Own) (b : List UInt8) (i : Nat) : St := rd (lay A fc 0 0 [.dead]) (A.length + 3) (o.adv i) (b.drop i) i
theorem RFa_lay (A : St) (fc : List D) (o : Own) (b : List UInt8) (i : Nat) : RFa A fc o b i = lay A fc 0 0 [.cells [.sl (o.adv i) 1 (strBytes (b.drop i)), .int .i64 i]] := by
  unfold RFa rd lay
  rw [set_app _ _ 3 _ _ rfl]; rfl
theorem adv_adv (o : Own) (i n : Nat) : (o.adv i).adv n = o.adv (i + n) := by cases o <;> simp [Own.adv, Nat.add_assoc]
theorem RFa_loadR (A : St) (fc : List D) (o : Own) (b : List UInt8) (i : Nat) (g : Bool) (n off : Nat) : loadO g n (.ref (A.length + 3) off) (RFa A fc o b i) = ofCells g [.sl (o.adv i) 1 (strBytes (b.drop i)), .int .i64 i] off n :=
  qc6 (by rw [lay_length]; simp)
theorem RFa_store (A : St) (fc : List D) (o : Own) (b : List UInt8) (i off : Nat) (d : D) : storeO false 1 (.ref A.length off) d (RFa A fc o b i) = (layCells false 1 off fc d).map fun fc' => RFa A fc' o b i := by
  rw [RFa_lay]
  have hA : (lay A fc 0 0 [.cells [.sl (o.adv i) 1 (strBytes (b.drop i)), .int .i64 i]])[A.length]? = some (.cells fc) := by unfold lay; rw [get_app _ _ _ 0 (by omega)]; rfl
  unfold storeO layCells
  cases d.cellsT false with
  | none => rfl
  | some vs =>
    simp only [Option.bind_some, hA]
    split
    · simp only [Option.map_some, RFa_lay]
      unfold lay
      rw [set_app _ _ 0 _ _ (by omega)]; rfl
    · rfl
theorem g28 (A : St) (fc : List D) (o : Own) (ho : o.shut A.length = o) (b : List UInt8) (i n : Nat) (hb : b.length ≤ 9223372036854775807) (h : i + n ≤ b.length) (hn : n ≤ 8) :
    Run Try.prog codecH 28 [.ref (A.length + 3) 0, .int .i64 n] (RFa A fc o b i) = some (.ret (.int .u64 (num ((b.drop i).take n))), RFa A fc o b (i + n)) := by
  unfold RFa
  rw [s28 _ _ n (by rw [lay_length]; simp) _ (by rw [lay_length]; exact shut_mono (adv_shut ho i) (by omega)) _ _ (by omega) (by omega) (by simp; omega) hn, adv_adv, List.drop_drop]
  rfl
theorem g29 (A : St) (fc : List D) (o : Own) (ho : o.shut A.length = o) (b : List UInt8) (i n : Nat) (hb : b.length ≤ 9223372036854775807) (h : i + n ≤ b.length) (hn : n ≤ 7) (most : Nat) (hm : num ((b.drop i).take n) ≤ most) :
    Run Try.prog codecH 29 [.ref (A.length + 3) 0, .int .i64 n, .int .u64 most] (RFa A fc o b i) = some (.ret (.int .i64 (num ((b.drop i).take n))), RFa A fc o b (i + n)) := by
  unfold RFa
  rw [s29 _ _ n (by rw [lay_length]; simp) _ (by rw [lay_length]; exact shut_mono (adv_shut ho i) (by omega)) _ _ (by omega) (by omega) (by simp; omega) hn most hm, adv_adv, List.drop_drop]
  rfl
theorem g31 (A : St) (fc : List D) (o : Own) (ho : o.shut A.length = o) (b : List UInt8) (i n : Nat) (hb : b.length ≤ 9223372036854775807) (h : i + n ≤ b.length) :
    Run Try.prog codecH 31 [.ref (A.length + 3) 0, .int .i64 n] (RFa A fc o b i) = some (.ret (.sl .full 1 (strBytes ((b.drop i).take n))), RFa A fc o b (i + n)) := by
  unfold RFa
  rw [s31 _ _ n (by rw [lay_length]; simp) _ (by rw [lay_length]; exact shut_mono (adv_shut ho i) (by omega)) _ _ (by omega) (by omega) (by simp; omega), adv_adv, List.drop_drop]
  rfl
theorem lay_fold (A : St) (fc : List D) (x y : Int) : A ++ [Slot.cells fc, .cells [.int .i64 x], .cells [.int .i64 y]] = lay A fc x y [] := rfl
theorem RFa_fold (A : St) (fc : List D) (o : Own) (b : List UInt8) : A ++ [Slot.cells fc, .cells [.int .i64 0], .cells [.int .i64 0], .cells [.sl (o.adv 1) 1 (strBytes (b.drop 1)), .int .i64 1]] = RFa A fc o b 1 := (RFa_lay A fc o b 1).symm
theorem RFa_load0 (A : St) (fc : List D) (o : Own) (b : List UInt8) (i : Nat) (g : Bool) (n off : Nat) : loadO g n (.ref A.length off) (RFa A fc o b i) = ofCells g fc off n := by rw [RFa_lay]; exact lay_load0 ..
theorem lay_aggsl (a c : D) (o : Own) (es : Nat) (ds : List D) (k : IntKind) (n : Int) : layCells true 2 0 [a, c] (.agg [.sl o es ds, .int k n]) = some [.sl o es ds, .int k n] := rfl
theorem s25z (A : St) (a b c d e f : D) (x : Int) (T : St) :
    Dcall Try.prog codecH (.fn (.func 25) [] [.ref (A.length + 2) 0, .ref A.length 0]) [] none (lay A [a, b, c, d, e, f] x 0 T) = some (none, lay A [a, b, c, d, e, f] x 0 T) := by
  have := s25 A [a, b, c, d, e, f] rfl x 0 T
  simpa using this
theorem Kept_layA (A : St) (fc : List D) (x y : Int) (T : St) : Kept A (lay A fc x y T) ↔ True := by unfold lay; exact qao _ _
theorem take_layA (A : St) (fc : List D) (x y : Int) (T : St) : (lay A fc x y T).take A.length = A := by unfold lay; exact List.take_left
theorem own_ite (c : Prop) [Decidable c] (n : Nat) : (if c then Own.full else Own.sh).shut n = if c then .full else .sh := by split <;> rfl
theorem num_le4 (l : List UInt8) (h : l.length ≤ 4) : num l ≤ 4294967295 := by
  have := num_lt l
  have h2 : 256 ^ l.length ≤ 256 ^ 4 := Nat.pow_le_pow_right (by omega) h
  have e : (256 : Nat) ^ 4 = 4294967296 := by decide
  omega
end Go.Vm.Codec
