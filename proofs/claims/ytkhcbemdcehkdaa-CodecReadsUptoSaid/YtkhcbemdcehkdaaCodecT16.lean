/- CodecT15, CodecT16 in one text. -/
import Derived.Test.YtkhcbemdcehkdaaCodecT14
import Derived.Test.YtkhcbemdcehkdaaCodecP2
set_option linter.all false
/- What the reference's ReadResult comes to: a round of the loop over the shares. -/
namespace Go.Vm.Codec
open Go.Proofs
set_option linter.unusedVariables false
set_option linter.unusedSimpArgs false
set_option maxRecDepth 10000
set_option maxHeartbeats 4000000
section
variable (A : St) (z : Slot) (o : Own) (b : List UInt8) (i : Nat) (bad : Bool) (X : Slot) (J U : St)
theorem QJ_l (cs : List D) (g : Bool) (n off : Nat) : loadO g n (.ref (A.length + (J.length + 3)) off) (Q A z o b i bad (X :: (J ++ (.cells cs :: U)))) = ofCells g cs off n :=
  Q_loadT _ _ _ _ _ _ _ (J.length + 1) cs _ (by omega) (by simp) g n off
theorem QJ_s (c : Nat) : storeO true 2 (.ref (A.length + (J.length + 3)) 0) (.agg [.int .u64 c, .sl .full 0 []]) (Q A z o b i bad (X :: (J ++ (.cells [.int .u64 0, .sl .full 0 []] :: U)))) = some (Q A z o b i bad (X :: (J ++ (.cells [.int .u64 c, .sl .full 0 []] :: U)))) := by
  rw [Q_storeT _ _ _ _ _ _ _ (J.length + 1) 2 [.int .u64 0, .sl .full 0 []] [.int .u64 c, .sl .full 0 []] _ (by omega) (by simp) rfl rfl rfl]
  simp
theorem QJ_s1 (c : Nat) (w : Own) (l : List D) : storeO false 1 (.ref (A.length + (J.length + 3)) 1) (.sl w 1 l) (Q A z o b i bad (X :: (J ++ (.cells [.int .u64 c, .sl .full 0 []] :: U)))) = some (Q A z o b i bad (X :: (J ++ (.cells [.int .u64 c, .sl w 1 l] :: U)))) := by
  rw [Q_store1T _ _ _ _ _ _ _ (J.length + 1) 1 [.int .u64 c, .sl .full 0 []] (.sl w 1 l) _ (by omega) (by simp) rfl (by simp)]
  simp [splice]
theorem QX_s (d0 d1 d2 d3 : D) (w : Own) (l : List D) : storeO false 1 (.ref (A.length + 2) 3) (.sl w 2 l) (Q A z o b i bad (.cells [d0, d1, d2, d3] :: J)) = some (Q A z o b i bad (.cells [d0, d1, d2, .sl w 2 l] :: J)) := by
  rw [Q_store1T _ _ _ _ _ _ _ 0 3 [d0, d1, d2, d3] (.sl w 2 l) _ rfl rfl rfl (by simp)]
  rfl
theorem QX_s2 (d0 d1 d2 d3 : D) (w : Own) (l : List D) : storeO false 1 (.ref (A.length + 2) 2) (.sl w 2 l) (Q A z o b i bad (.cells [d0, d1, d2, d3] :: J)) = some (Q A z o b i bad (.cells [d0, d1, .sl w 2 l, d3] :: J)) := by
  rw [Q_store1T _ _ _ _ _ _ _ 0 2 [d0, d1, d2, d3] (.sl w 2 l) _ rfl rfl rfl (by simp)]
  rfl
theorem app_dump (s : Slot) (w : Own) (d : List UInt8) (hd : d ≠ []) (hl : d.length ≤ 140737488355328) : appendO 1 1 (.sl .full 1 []) (.sl w 1 (strBytes d)) (Q A z o b i bad (X :: (J ++ [s]))) = some (.sl (.own (A.length + (J.length + 4)) 0) 1 (strBytes d), Q A z o b i bad (X :: (J ++ [s, .tok d.length]))) := by
  rw [append_full (new := strBytes d) (by simp [appendNew, esOk]) (by cases d with
    | nil => exact (hd rfl).elim
    | cons c r => rfl) (by simp [roomOk]; omega) (by simp; omega), Q_app, qd8]
  simp
end
/-- a slice that is appended to: it has no elements, or a slot of J tells its room -/
def Own4 (A : St) (o : Own) (es : Nat) (ds : List D) (J : St) : Prop := (o = .full ∧ es = 0 ∧ ds = []) ∨ (es = 2 ∧ ∃ j, o = .own (A.length + (j + 3)) 0 ∧ J[j]? = some (.tok ds.length))
theorem Own4.app {A : St} {o : Own} {es : Nat} {ds : List D} {J : St} (h : Own4 A o es ds J) (U : St) : Own4 A o es ds (J ++ U) := by
  rcases h with h | ⟨h1, j, h2, h3⟩
  · exact .inl h
  · exact .inr ⟨h1, j, h2, by rw [List.getElem?_append_left (List.getElem?_eq_some_iff.1 h3).1]; exact h3⟩
theorem Own4.push {A : St} {so : Own} {se : Nat} {ds : List D} {J : St} (h : Own4 A so se ds J) (z : Slot) (o : Own) (b : List UInt8) (i : Nat) (bad : Bool) (X : Slot) (d : D) (k : Nat) (hr : roomOk (ds.length + 1) k = true) (hl : ds.length + 1 ≤ 9223372036854775807) :
    ∃ so' J', appendO 2 k (.sl so se ds) (.sl .full 2 [d]) (Q A z o b i bad (X :: J)) = some (.sl so' 2 (ds ++ [d]), Q A z o b i bad (X :: J')) ∧ Own4 A so' 2 (ds ++ [d]) J' := by
  rcases h with ⟨rfl, rfl, rfl⟩ | ⟨rfl, j, rfl, h3⟩
  · refine ⟨.own (A.length + (J.length + 3)) 0, J ++ [.tok 1], ?_, .inr ⟨rfl, J.length, rfl, by simp⟩⟩
    have hq : appendO 2 k (.sl .full 0 []) (.sl .full 2 [d]) (Q A z o b i bad (X :: J)) = appendO 2 k (.sl .full 2 []) (.sl .full 2 [d]) (Q A z o b i bad (X :: J)) := by
      simp [appendO, esOk, Own.isOwn]
    rw [hq, append_full (new_full _ _) rfl hr hl, Q_app, qd8]
    simp
  · have hj := (List.getElem?_eq_some_iff.1 h3).1
    refine ⟨.own (A.length + (j + 3)) 0, J.set j (.tok (ds.length + 1)), ?_, .inr ⟨rfl, j, rfl, by rw [List.getElem?_set_self hj]; simp⟩⟩
    rw [append_own (new_full _ _) (by rw [Q_at _ _ _ _ _ _ _ (j + 1) _ (by omega)]; simpa using h3) hr hl, Q_set _ _ _ _ _ _ _ (j + 1) _ _ (by omega)]
    simp
theorem slice_mid (b : List UInt8) (i m : Nat) (h : i + m ≤ b.length) (o : Own) : ∃ w', sliceSlO 1 (.sl o 1 (strBytes b)) (some (.int .i64 (i : Int))) (some (.int .i64 ((i : Int) + (m : Int)))) none = some (.sl w' 1 (strBytes ((b.drop i).take m))) := by
  have e : (List.take ((i : Int) + (m : Int)).toNat (strBytes b)).drop i = strBytes ((b.drop i).take m) := by
    have e1 : ((i : Int) + (m : Int)).toNat = i + m := by omega
    rw [e1, List.drop_take, Nat.add_sub_cancel_left]
    simp [strBytes]
  have h2 : ((i : Int) + (m : Int)) ≤ b.length := by omega
  refine ⟨sliceOwn o (strBytes b).length (i : Int).toNat ((i : Int) + (m : Int)).toNat none, ?_⟩
  unfold sliceSlO
  simp only [optInt, D.int?, Option.map_some, Option.bind_some]
  rw [if_pos ⟨by omega, by simp [esOk]⟩]
  unfold sliceSl
  simp only [Option.getD_some, Option.getD_none, qaa, Option.map_none]
  rw [if_pos ⟨by omega, by omega, h2, by omega, by simp⟩]
  rw [show ((i : Int)).toNat = i from Int.toNat_natCast i, e]
theorem s16_good (A : St) (o : Own) (ho : o.shut A.length = o) (b : List UInt8) (hb : b.length ≤ 1048576) (n j i : Nat) (w : D) (hj : j < n) (hn : n ≤ 256) (iv nd : Int) (vD : D) (so : Own) (se : Nat) (ds : List D) (hds : ds.length ≤ 256) (J : St) (hso : Own4 A so se ds J) (hvD : allCells [vD] = true)
    (h : i + 8 ≤ b.length) (hc : num ((b.drop i).take 8) ≠ 0) (h12 : i + 12 ≤ b.length) (h0 : num ((b.drop (i + 8)).take 4) ≠ 0) (hl : i + 12 + num ((b.drop (i + 8)).take 4) ≤ b.length) :
    ∃ so' J' k, Own4 A so' 2 (ds ++ [.agg [.int .u64 (num ((b.drop i).take 8)), .sl (.own (A.length + k) 0) 1 (strBytes ((b.drop (i + 12)).take (num ((b.drop (i + 8)).take 4))))]]) J' ∧
    f16_s0 (Run Try.prog codecH) (Dcall Try.prog codecH) A (Env.mk [.sl o 1 (strBytes b), D.any, .ref A.length 0, D.any, D.any, .ref (A.length + 1) 0, .ref (A.length + 2) 0, .int .i64 n, D.any, D.any, D.any, .int .i64 j, D.any, D.any, D.any, D.any, D.any, D.any, D.any, D.any, D.any, D.any, D.any, D.any, D.any, D.any, D.any, D.any, D.any, D.any, D.any, D.any, D.any, D.any, D.any, D.any, D.any, D.any, D.any, D.any, w, D.any, D.any, D.any, D.any, D.any, D.any, D.any, D.any, D.any, D.any, D.any, D.any, D.any, D.any, D.any, D.any, D.any, D.any, D.any, D.any, D.any, D.any, D.any, D.any, D.any, D.any, D.any, D.any, D.any, D.any, D.any, D.any, D.any, D.any, D.any, D.any, D.any, D.any, D.any, D.any, D.any, D.any, D.any, D.any, D.any, D.any, D.any, D.any, D.any, D.any, D.any, D.any, D.any, D.any, D.any, D.any, D.any, D.any, D.any, D.any, D.any, D.any, D.any, D.any, D.any, D.any, D.any, D.any, D.any, D.any, D.any, D.any, D.any, D.any, D.any, D.any, D.any, D.any, D.any, D.any, D.any, D.any, D.any, D.any, D.any, D.any, D.any, D.any, D.any, D.any, D.any, D.any, D.any, D.any, D.any, D.any, D.any, D.any, D.any, D.any, D.any, D.any, D.any, D.any, D.any, D.any, D.any, D.any, D.any, D.any, D.any, D.any, D.any, D.any, D.any, D.any, D.any] []) (Q A zS o b i false (.cells [.int .i64 iv, .int .i64 nd, vD, .sl so se ds] :: J)) =
      some (.inl ((Env.mk [.sl o 1 (strBytes b), D.any, .ref A.length 0, D.any, D.any, .ref (A.length + 1) 0, .ref (A.length + 2) 0, .int .i64 n, D.any, D.any, D.any, .int .i64 ((j + 1 : Nat) : Int), D.any, D.any, D.any, D.any, D.any, D.any, D.any, D.any, D.any, D.any, D.any, D.any, D.any, D.any, D.any, D.any, D.any, D.any, D.any, D.any, D.any, D.any, D.any, D.any, D.any, D.any, D.any, D.any, w, D.any, D.any, D.any, D.any, D.any, D.any, D.any, D.any, D.any, D.any, D.any, D.any, D.any, D.any, D.any, D.any, D.any, D.any, D.any, D.any, D.any, D.any, D.any, D.any, D.any, D.any, D.any, D.any, D.any, D.any, D.any, D.any, D.any, D.any, D.any, D.any, D.any, D.any, D.any, D.any, D.any, D.any, D.any, D.any, D.any, D.any, D.any, D.any, D.any, D.any, D.any, D.any, D.any, D.any, D.any, D.any, D.any, D.any, D.any, D.any, D.any, D.any, D.any, D.any, D.any, D.any, D.any, D.any, D.any, D.any, D.any, D.any, D.any, D.any, D.any, D.any, D.any, D.any, D.any, D.any, D.any, D.any, D.any, D.any, D.any, D.any, D.any, D.any, D.any, D.any, D.any, D.any, D.any, D.any, D.any, D.any, D.any, D.any, D.any, D.any, D.any, D.any, D.any, D.any, D.any, D.any, D.any, D.any, D.any, D.any, D.any, D.any, D.any, D.any, D.any, D.any, D.any] []), Q A zS o b (i + 12 + num ((b.drop (i + 8)).take 4)) false (.cells [.int .i64 iv, .int .i64 nd, vD, .sl so' 2 (ds ++ [.agg [.int .u64 (num ((b.drop i).take 8)), .sl (.own (A.length + k) 0) 1 (strBytes ((b.drop (i + 12)).take (num ((b.drop (i + 8)).take 4))))]])] :: J'))) := by
  have hm := num_le4 ((b.drop (i + 8)).take 4) (by simp; omega)
  have h8 : num ((b.drop i).take 8) < 18446744073709551616 := by
    have := num_lt ((b.drop i).take 8)
    have e : ((b.drop i).take 8).length = 8 := by rw [List.length_take, List.length_drop]; omega
    rw [e, e8] at this
    exact this
  have a8 : ∀ T, Run Try.prog codecH 36 [.ref (A.length + 1) 0, .int .i64 8, .int .u64 1, .int .u64 18446744073709551615] (Q A zS o b i false T) = some (.ret (.int .u64 (num ((b.drop i).take 8))), Q A zS o b (i + 8) false T) := fun T => by
    have := s36 A zS o ho b (by omega) T 8 1 18446744073709551615 i false (by omega) (by omega)
    unfold pNext at this
    rw [if_neg (by simp; omega), if_neg (by omega)] at this
    exact this
  have a4 : ∀ T, Run Try.prog codecH 36 [.ref (A.length + 1) 0, .int .i64 4, .int .u64 1, .int .u64 18446744073709551615] (Q A zS o b (i + 8) false T) = some (.ret (.int .u64 (num ((b.drop (i + 8)).take 4))), Q A zS o b (i + 12) false T) := fun T => by
    have := s36 A zS o ho b (by omega) T 4 1 18446744073709551615 (i + 8) false (by omega) (by omega)
    unfold pNext at this
    rw [if_neg (by simp; omega), if_neg (by omega)] at this
    exact this
  obtain ⟨w', hsl⟩ := slice_mid b (i + 12) (num ((b.drop (i + 8)).take 4)) hl o
  generalize hC : num ((b.drop i).take 8) = C at *
  generalize hM : num ((b.drop (i + 8)).take 4) = M at *
  have hdl : ((b.drop (i + 12)).take M).length = M := by rw [List.length_take, List.length_drop]; omega
  generalize hD : (b.drop (i + 12)).take M = dd at *
  have hdne : dd ≠ [] := by rintro rfl; simp at hdl; omega
  have had := fun bad i X s => app_dump A zS o b i bad X J s w' dd hdne (by omega)
  obtain ⟨so', J', hp, hown⟩ := (hso.app [.cells [.int .u64 C, .sl (.own (A.length + (J.length + 4)) 0) 1 (strBytes dd)], .tok dd.length]).push zS o b (i + (12 + M)) false (.cells [.int .i64 iv, .int .i64 nd, vD, .sl so se ds]) (.agg [.int .u64 C, .sl (.own (A.length + (J.length + 4)) 0) 1 (strBytes dd)]) 32 (by simp [roomOk]; omega) (by omega)
  refine ⟨so', J', J.length + 4, hown, ?_⟩
  have e1 : (((i + 12 : Nat) : Int) + (M : Int)).toNat = i + 12 + M := by omega
  unfold f16_s0
  (repeat (first | (first | with_reducible refine qdh ?_ | with_reducible refine qdj ?_ | with_reducible refine qdk ?_ | with_reducible refine qdt ?_ | with_reducible refine qdi ?_ | with_reducible refine qbr ?_ | with_reducible refine qc2 ?_ | with_reducible refine qa9 ?_ | with_reducible refine qdw ?_ | with_reducible refine qdx ?_ | with_reducible refine qdr ?_ | with_reducible refine qds ?_ | with_reducible refine qdv ?_ | with_reducible refine qdu ?_ | with_reducible refine qc1 ?_) | ((conv => lhs; arg 1; simp (disch := first | omega | assumption) only [qc7, qdg, qb1, qbc, qap, qb2, qce, Sum.elim_inl, Sum.elim_inr, Option.map_some, Option.map_none, Option.bind_some, Option.bind_none, Option.bind_eq_bind, qd0, qdz, qcz, qcr, qct, qcu, qcv, qcw, qcx, qcy, qcs, shl8, or8, shr8, qbu, qbs, qbp, qcn, qbo, qb3, qcp, qco, qbq, qa6, qaz, qat, qaj, qdq, qdo, qdn, qdp, qcf, qcg, qch, qci, qcj, qck, qcl, qcm, qd3, qd4, qd1, qd2, qaa, qbg, qbh, qau, qak, qae, qaf, qaw, qb6, qbv, qbe, qbx, qbd, qca, qbj, qb8, qc5, qcb, qbw, qbk, qa0, qb9, qbf, qay, qdl, qcc, qc9, qc3, qbi, qao, qb5, qa7, qa5, qaq, qah, qan, qa4, qa3, qas, qai, qad, qac, qab, qb0, qa2, qbn, qbz, qby, qa8, List.take_length, List.map_nil, List.drop_zero, List.drop_succ_cons, Nat.zero_add, Nat.add_zero, qba, qbb, qc6, qbm, qbl, qc8, qb4, qb7, qax, qa1, qar, qda, qbt, qdd, qcq, qal, qam, qag, qav, cond_true, cond_false, qc0, qdb, qc4, qdf, qdm, qcd, qdy, qde, qdc, ofA2, ofA3, ofA4, ofA6, packD, List.take_left, List.length_append, List.length_cons, List.length_nil, List.length_set, a8, a4, hsl, had, hp, e1, Q_loadR, Q_x, Q_app, qd8, QJ_l, QJ_s, QJ_s1, QX_s, Q_storeI, Q_storeB, un_not, Bool.not_true, Bool.not_false, List.append_assoc, List.cons_append, List.nil_append, List.length_append, List.length_cons, List.length_nil, Nat.add_assoc, Nat.reduceAdd, lay_agg1, parts_sh]); (first | with_reducible refine qdh ?_ | with_reducible refine qdj ?_ | with_reducible refine qdk ?_ | with_reducible refine qdt ?_ | with_reducible refine qdi ?_ | with_reducible refine qbr ?_ | with_reducible refine qc2 ?_ | with_reducible refine qa9 ?_ | with_reducible refine qdw ?_ | with_reducible refine qdx ?_ | with_reducible refine qdr ?_ | with_reducible refine qds ?_ | with_reducible refine qdv ?_ | with_reducible refine qdu ?_ | with_reducible refine qc1 ?_))))
  simp (disch := first | omega | assumption) only [qc7, qdg, qb1, qbc, qap, qb2, qce, Sum.elim_inl, Sum.elim_inr, Option.map_some, Option.map_none, Option.bind_some, Option.bind_none, Option.bind_eq_bind, qd0, qdz, qcz, qcr, qct, qcu, qcv, qcw, qcx, qcy, qcs, shl8, or8, shr8, qbu, qbs, qbp, qcn, qbo, qb3, qcp, qco, qbq, qa6, qaz, qat, qaj, qdq, qdo, qdn, qdp, qcf, qcg, qch, qci, qcj, qck, qcl, qcm, qd3, qd4, qd1, qd2, qaa, qbg, qbh, qau, qak, qae, qaf, qaw, qb6, qbv, qbe, qbx, qbd, qca, qbj, qb8, qc5, qcb, qbw, qbk, qa0, qb9, qbf, qay, qdl, qcc, qc9, qc3, qbi, qao, qb5, qa7, qa5, qaq, qah, qan, qa4, qa3, qas, qai, qad, qac, qab, qb0, qa2, qbn, qbz, qby, qa8, List.take_length, List.map_nil, List.drop_zero, List.drop_succ_cons, Nat.zero_add, Nat.add_zero, qba, qbb, qc6, qbm, qbl, qc8, qb4, qb7, qax, qa1, qar, qda, qbt, qdd, qcq, qal, qam, qag, qav, cond_true, cond_false, qc0, qdb, qc4, qdf, qdm, qcd, qdy, qde, qdc, ofA2, ofA3, ofA4, ofA6, packD, List.take_left, List.length_append, List.length_cons, List.length_nil, List.length_set]
  rw [Nat.add_assoc i 12 M]
  rfl
theorem s16_bad (A : St) (o : Own) (b : List UInt8) (hb : b.length ≤ 1048576) (n j i : Nat) (w : D) (hj : j < n) (hn : n ≤ 256) (xc : List D) (J : St) (c i1 p : Nat) (bad1 : Bool)
    (a8 : ∀ T, Run Try.prog codecH 36 [.ref (A.length + 1) 0, .int .i64 8, .int .u64 1, .int .u64 18446744073709551615] (Q A zS o b i false T) = some (.ret (.int .u64 c), Q A zS o b i1 bad1 T))
    (a4 : ∀ T, Run Try.prog codecH 36 [.ref (A.length + 1) 0, .int .i64 4, .int .u64 1, .int .u64 18446744073709551615] (Q A zS o b i1 bad1 T) = some (.ret (.int .u64 0), Q A zS o b p true T)) :
    f16_s0 (Run Try.prog codecH) (Dcall Try.prog codecH) A (Env.mk [.sl o 1 (strBytes b), D.any, .ref A.length 0, D.any, D.any, .ref (A.length + 1) 0, .ref (A.length + 2) 0, .int .i64 n, D.any, D.any, D.any, .int .i64 j, D.any, D.any, D.any, D.any, D.any, D.any, D.any, D.any, D.any, D.any, D.any, D.any, D.any, D.any, D.any, D.any, D.any, D.any, D.any, D.any, D.any, D.any, D.any, D.any, D.any, D.any, D.any, D.any, w, D.any, D.any, D.any, D.any, D.any, D.any, D.any, D.any, D.any, D.any, D.any, D.any, D.any, D.any, D.any, D.any, D.any, D.any, D.any, D.any, D.any, D.any, D.any, D.any, D.any, D.any, D.any, D.any, D.any, D.any, D.any, D.any, D.any, D.any, D.any, D.any, D.any, D.any, D.any, D.any, D.any, D.any, D.any, D.any, D.any, D.any, D.any, D.any, D.any, D.any, D.any, D.any, D.any, D.any, D.any, D.any, D.any, D.any, D.any, D.any, D.any, D.any, D.any, D.any, D.any, D.any, D.any, D.any, D.any, D.any, D.any, D.any, D.any, D.any, D.any, D.any, D.any, D.any, D.any, D.any, D.any, D.any, D.any, D.any, D.any, D.any, D.any, D.any, D.any, D.any, D.any, D.any, D.any, D.any, D.any, D.any, D.any, D.any, D.any, D.any, D.any, D.any, D.any, D.any, D.any, D.any, D.any, D.any, D.any, D.any, D.any, D.any, D.any, D.any, D.any, D.any, D.any] []) (Q A zS o b i false (.cells xc :: J)) =
      some (.inl ((Env.mk [.sl o 1 (strBytes b), D.any, .ref A.length 0, D.any, D.any, .ref (A.length + 1) 0, .ref (A.length + 2) 0, .int .i64 n, D.any, D.any, D.any, .int .i64 ((j + 1 : Nat) : Int), D.any, D.any, D.any, D.any, D.any, D.any, D.any, D.any, D.any, D.any, D.any, D.any, D.any, D.any, D.any, D.any, D.any, D.any, D.any, D.any, D.any, D.any, D.any, D.any, D.any, D.any, D.any, D.any, w, D.any, D.any, D.any, D.any, D.any, D.any, D.any, D.any, D.any, D.any, D.any, D.any, D.any, D.any, D.any, D.any, D.any, D.any, D.any, D.any, D.any, D.any, D.any, D.any, D.any, D.any, D.any, D.any, D.any, D.any, D.any, D.any, D.any, D.any, D.any, D.any, D.any, D.any, D.any, D.any, D.any, D.any, D.any, D.any, D.any, D.any, D.any, D.any, D.any, D.any, D.any, D.any, D.any, D.any, D.any, D.any, D.any, D.any, D.any, D.any, D.any, D.any, D.any, D.any, D.any, D.any, D.any, D.any, D.any, D.any, D.any, D.any, D.any, D.any, D.any, D.any, D.any, D.any, D.any, D.any, D.any, D.any, D.any, D.any, D.any, D.any, D.any, D.any, D.any, D.any, D.any, D.any, D.any, D.any, D.any, D.any, D.any, D.any, D.any, D.any, D.any, D.any, D.any, D.any, D.any, D.any, D.any, D.any, D.any, D.any, D.any, D.any, D.any, D.any, D.any, D.any, D.any] []), Q A zS o b p true (.cells xc :: (J ++ [.cells [.int .u64 c, .sl .full 0 []]])))) := by
  have hz : convO (.int .i64) (.int .u64 0) = some (.int .i64 0) := rfl
  unfold f16_s0
  (repeat (first | (first | with_reducible refine qdh ?_ | with_reducible refine qdj ?_ | with_reducible refine qdk ?_ | with_reducible refine qdt ?_ | with_reducible refine qdi ?_ | with_reducible refine qbr ?_ | with_reducible refine qc2 ?_ | with_reducible refine qa9 ?_ | with_reducible refine qdw ?_ | with_reducible refine qdx ?_ | with_reducible refine qdr ?_ | with_reducible refine qds ?_ | with_reducible refine qdv ?_ | with_reducible refine qdu ?_ | with_reducible refine qc1 ?_) | ((conv => lhs; arg 1; simp (disch := first | omega | assumption) only [qc7, qdg, qb1, qbc, qap, qb2, qce, Sum.elim_inl, Sum.elim_inr, Option.map_some, Option.map_none, Option.bind_some, Option.bind_none, Option.bind_eq_bind, qd0, qdz, qcz, qcr, qct, qcu, qcv, qcw, qcx, qcy, qcs, shl8, or8, shr8, qbu, qbs, qbp, qcn, qbo, qb3, qcp, qco, qbq, qa6, qaz, qat, qaj, qdq, qdo, qdn, qdp, qcf, qcg, qch, qci, qcj, qck, qcl, qcm, qd3, qd4, qd1, qd2, qaa, qbg, qbh, qau, qak, qae, qaf, qaw, qb6, qbv, qbe, qbx, qbd, qca, qbj, qb8, qc5, qcb, qbw, qbk, qa0, qb9, qbf, qay, qdl, qcc, qc9, qc3, qbi, qao, qb5, qa7, qa5, qaq, qah, qan, qa4, qa3, qas, qai, qad, qac, qab, qb0, qa2, qbn, qbz, qby, qa8, List.take_length, List.map_nil, List.drop_zero, List.drop_succ_cons, Nat.zero_add, Nat.add_zero, qba, qbb, qc6, qbm, qbl, qc8, qb4, qb7, qax, qa1, qar, qda, qbt, qdd, qcq, qal, qam, qag, qav, cond_true, cond_false, qc0, qdb, qc4, qdf, qdm, qcd, qdy, qde, qdc, ofA2, ofA3, ofA4, ofA6, packD, List.take_left, List.length_append, List.length_cons, List.length_nil, List.length_set, a8, a4, hz, Q_loadR, Q_x, Q_app, qd8, QJ_l, QJ_s, QJ_s1, QX_s, Q_storeI, Q_storeB, un_not, Bool.not_true, Bool.not_false, List.append_assoc, List.cons_append, List.nil_append, List.length_append, List.length_cons, List.length_nil, Nat.add_assoc, Nat.reduceAdd, lay_agg1, parts_sh]); (first | with_reducible refine qdh ?_ | with_reducible refine qdj ?_ | with_reducible refine qdk ?_ | with_reducible refine qdt ?_ | with_reducible refine qdi ?_ | with_reducible refine qbr ?_ | with_reducible refine qc2 ?_ | with_reducible refine qa9 ?_ | with_reducible refine qdw ?_ | with_reducible refine qdx ?_ | with_reducible refine qdr ?_ | with_reducible refine qds ?_ | with_reducible refine qdv ?_ | with_reducible refine qdu ?_ | with_reducible refine qc1 ?_))))
  simp (disch := first | omega | assumption) only [qc7, qdg, qb1, qbc, qap, qb2, qce, Sum.elim_inl, Sum.elim_inr, Option.map_some, Option.map_none, Option.bind_some, Option.bind_none, Option.bind_eq_bind, qd0, qdz, qcz, qcr, qct, qcu, qcv, qcw, qcx, qcy, qcs, shl8, or8, shr8, qbu, qbs, qbp, qcn, qbo, qb3, qcp, qco, qbq, qa6, qaz, qat, qaj, qdq, qdo, qdn, qdp, qcf, qcg, qch, qci, qcj, qck, qcl, qcm, qd3, qd4, qd1, qd2, qaa, qbg, qbh, qau, qak, qae, qaf, qaw, qb6, qbv, qbe, qbx, qbd, qca, qbj, qb8, qc5, qcb, qbw, qbk, qa0, qb9, qbf, qay, qdl, qcc, qc9, qc3, qbi, qao, qb5, qa7, qa5, qaq, qah, qan, qa4, qa3, qas, qai, qad, qac, qab, qb0, qa2, qbn, qbz, qby, qa8, List.take_length, List.map_nil, List.drop_zero, List.drop_succ_cons, Nat.zero_add, Nat.add_zero, qba, qbb, qc6, qbm, qbl, qc8, qb4, qb7, qax, qa1, qar, qda, qbt, qdd, qcq, qal, qam, qag, qav, cond_true, cond_false, qc0, qdb, qc4, qdf, qdm, qcd, qdy, qde, qdc, ofA2, ofA3, ofA4, ofA6, packD, List.take_left, List.length_append, List.length_cons, List.length_nil, List.length_set]
  rfl
theorem s16_over (A : St) (o : Own) (b : List UInt8) (hb : b.length ≤ 1048576) (n j i : Nat) (w : D) (hj : j < n) (hn : n ≤ 256) (xc : List D) (J : St) (c m : Nat) (hm : m ≤ 4294967295) (hi : i + 12 ≤ b.length) (hov : b.length < i + 12 + m)
    (a8 : ∀ T, Run Try.prog codecH 36 [.ref (A.length + 1) 0, .int .i64 8, .int .u64 1, .int .u64 18446744073709551615] (Q A zS o b i false T) = some (.ret (.int .u64 c), Q A zS o b (i + 8) false T))
    (a4 : ∀ T, Run Try.prog codecH 36 [.ref (A.length + 1) 0, .int .i64 4, .int .u64 1, .int .u64 18446744073709551615] (Q A zS o b (i + 8) false T) = some (.ret (.int .u64 m), Q A zS o b (i + 12) false T)) :
    f16_s0 (Run Try.prog codecH) (Dcall Try.prog codecH) A (Env.mk [.sl o 1 (strBytes b), D.any, .ref A.length 0, D.any, D.any, .ref (A.length + 1) 0, .ref (A.length + 2) 0, .int .i64 n, D.any, D.any, D.any, .int .i64 j, D.any, D.any, D.any, D.any, D.any, D.any, D.any, D.any, D.any, D.any, D.any, D.any, D.any, D.any, D.any, D.any, D.any, D.any, D.any, D.any, D.any, D.any, D.any, D.any, D.any, D.any, D.any, D.any, w, D.any, D.any, D.any, D.any, D.any, D.any, D.any, D.any, D.any, D.any, D.any, D.any, D.any, D.any, D.any, D.any, D.any, D.any, D.any, D.any, D.any, D.any, D.any, D.any, D.any, D.any, D.any, D.any, D.any, D.any, D.any, D.any, D.any, D.any, D.any, D.any, D.any, D.any, D.any, D.any, D.any, D.any, D.any, D.any, D.any, D.any, D.any, D.any, D.any, D.any, D.any, D.any, D.any, D.any, D.any, D.any, D.any, D.any, D.any, D.any, D.any, D.any, D.any, D.any, D.any, D.any, D.any, D.any, D.any, D.any, D.any, D.any, D.any, D.any, D.any, D.any, D.any, D.any, D.any, D.any, D.any, D.any, D.any, D.any, D.any, D.any, D.any, D.any, D.any, D.any, D.any, D.any, D.any, D.any, D.any, D.any, D.any, D.any, D.any, D.any, D.any, D.any, D.any, D.any, D.any, D.any, D.any, D.any, D.any, D.any, D.any, D.any, D.any, D.any, D.any, D.any, D.any] []) (Q A zS o b i false (.cells xc :: J)) =
      some (.inl ((Env.mk [.sl o 1 (strBytes b), D.any, .ref A.length 0, D.any, D.any, .ref (A.length + 1) 0, .ref (A.length + 2) 0, .int .i64 n, D.any, D.any, D.any, .int .i64 ((j + 1 : Nat) : Int), D.any, D.any, D.any, D.any, D.any, D.any, D.any, D.any, D.any, D.any, D.any, D.any, D.any, D.any, D.any, D.any, D.any, D.any, D.any, D.any, D.any, D.any, D.any, D.any, D.any, D.any, D.any, D.any, w, D.any, D.any, D.any, D.any, D.any, D.any, D.any, D.any, D.any, D.any, D.any, D.any, D.any, D.any, D.any, D.any, D.any, D.any, D.any, D.any, D.any, D.any, D.any, D.any, D.any, D.any, D.any, D.any, D.any, D.any, D.any, D.any, D.any, D.any, D.any, D.any, D.any, D.any, D.any, D.any, D.any, D.any, D.any, D.any, D.any, D.any, D.any, D.any, D.any, D.any, D.any, D.any, D.any, D.any, D.any, D.any, D.any, D.any, D.any, D.any, D.any, D.any, D.any, D.any, D.any, D.any, D.any, D.any, D.any, D.any, D.any, D.any, D.any, D.any, D.any, D.any, D.any, D.any, D.any, D.any, D.any, D.any, D.any, D.any, D.any, D.any, D.any, D.any, D.any, D.any, D.any, D.any, D.any, D.any, D.any, D.any, D.any, D.any, D.any, D.any, D.any, D.any, D.any, D.any, D.any, D.any, D.any, D.any, D.any, D.any, D.any, D.any, D.any, D.any, D.any, D.any, D.any] []), Q A zS o b (i + 8) true (.cells xc :: (J ++ [.cells [.int .u64 c, .sl .full 0 []]])))) := by
  have e1 : (((i + 12 : Nat) : Int) - 4).toNat = i + 8 := by omega
  unfold f16_s0
  (repeat (first | (first | with_reducible refine qdh ?_ | with_reducible refine qdj ?_ | with_reducible refine qdk ?_ | with_reducible refine qdt ?_ | with_reducible refine qdi ?_ | with_reducible refine qbr ?_ | with_reducible refine qc2 ?_ | with_reducible refine qa9 ?_ | with_reducible refine qdw ?_ | with_reducible refine qdx ?_ | with_reducible refine qdr ?_ | with_reducible refine qds ?_ | with_reducible refine qdv ?_ | with_reducible refine qdu ?_ | with_reducible refine qc1 ?_) | ((conv => lhs; arg 1; simp (disch := first | omega | assumption) only [qc7, qdg, qb1, qbc, qap, qb2, qce, Sum.elim_inl, Sum.elim_inr, Option.map_some, Option.map_none, Option.bind_some, Option.bind_none, Option.bind_eq_bind, qd0, qdz, qcz, qcr, qct, qcu, qcv, qcw, qcx, qcy, qcs, shl8, or8, shr8, qbu, qbs, qbp, qcn, qbo, qb3, qcp, qco, qbq, qa6, qaz, qat, qaj, qdq, qdo, qdn, qdp, qcf, qcg, qch, qci, qcj, qck, qcl, qcm, qd3, qd4, qd1, qd2, qaa, qbg, qbh, qau, qak, qae, qaf, qaw, qb6, qbv, qbe, qbx, qbd, qca, qbj, qb8, qc5, qcb, qbw, qbk, qa0, qb9, qbf, qay, qdl, qcc, qc9, qc3, qbi, qao, qb5, qa7, qa5, qaq, qah, qan, qa4, qa3, qas, qai, qad, qac, qab, qb0, qa2, qbn, qbz, qby, qa8, List.take_length, List.map_nil, List.drop_zero, List.drop_succ_cons, Nat.zero_add, Nat.add_zero, qba, qbb, qc6, qbm, qbl, qc8, qb4, qb7, qax, qa1, qar, qda, qbt, qdd, qcq, qal, qam, qag, qav, cond_true, cond_false, qc0, qdb, qc4, qdf, qdm, qcd, qdy, qde, qdc, ofA2, ofA3, ofA4, ofA6, packD, List.take_left, List.length_append, List.length_cons, List.length_nil, List.length_set, a8, a4, e1, Q_loadR, Q_x, Q_app, qd8, QJ_l, QJ_s, QJ_s1, QX_s, Q_storeI, Q_storeB, un_not, Bool.not_true, Bool.not_false, List.append_assoc, List.cons_append, List.nil_append, List.length_append, List.length_cons, List.length_nil, Nat.add_assoc, Nat.reduceAdd, lay_agg1, parts_sh]); (first | with_reducible refine qdh ?_ | with_reducible refine qdj ?_ | with_reducible refine qdk ?_ | with_reducible refine qdt ?_ | with_reducible refine qdi ?_ | with_reducible refine qbr ?_ | with_reducible refine qc2 ?_ | with_reducible refine qa9 ?_ | with_reducible refine qdw ?_ | with_reducible refine qdx ?_ | with_reducible refine qdr ?_ | with_reducible refine qds ?_ | with_reducible refine qdv ?_ | with_reducible refine qdu ?_ | with_reducible refine qc1 ?_))))
  simp (disch := first | omega | assumption) only [qc7, qdg, qb1, qbc, qap, qb2, qce, Sum.elim_inl, Sum.elim_inr, Option.map_some, Option.map_none, Option.bind_some, Option.bind_none, Option.bind_eq_bind, qd0, qdz, qcz, qcr, qct, qcu, qcv, qcw, qcx, qcy, qcs, shl8, or8, shr8, qbu, qbs, qbp, qcn, qbo, qb3, qcp, qco, qbq, qa6, qaz, qat, qaj, qdq, qdo, qdn, qdp, qcf, qcg, qch, qci, qcj, qck, qcl, qcm, qd3, qd4, qd1, qd2, qaa, qbg, qbh, qau, qak, qae, qaf, qaw, qb6, qbv, qbe, qbx, qbd, qca, qbj, qb8, qc5, qcb, qbw, qbk, qa0, qb9, qbf, qay, qdl, qcc, qc9, qc3, qbi, qao, qb5, qa7, qa5, qaq, qah, qan, qa4, qa3, qas, qai, qad, qac, qab, qb0, qa2, qbn, qbz, qby, qa8, List.take_length, List.map_nil, List.drop_zero, List.drop_succ_cons, Nat.zero_add, Nat.add_zero, qba, qbb, qc6, qbm, qbl, qc8, qb4, qb7, qax, qa1, qar, qda, qbt, qdd, qcq, qal, qam, qag, qav, cond_true, cond_false, qc0, qdb, qc4, qdf, qdm, qcd, qdy, qde, qdc, ofA2, ofA3, ofA4, ofA6, packD, List.take_left, List.length_append, List.length_cons, List.length_nil, List.length_set]
  rfl
end Go.Vm.Codec

/- What the reference's ReadResult comes to: all of the loop over the shares. -/
namespace Go.Vm.Codec
open Go.Proofs
set_option linter.unusedVariables false
set_option linter.unusedSimpArgs false
set_option maxRecDepth 10000
set_option maxHeartbeats 4000000
theorem n36_bad (A : St) (o : Own) (ho : o.shut A.length = o) (b : List UInt8) (hb : b.length ≤ 140737488355328) (n lo hi i : Nat) (hi' : i ≤ b.length) (hn : n ≤ 8) (T : St) :
    Run Try.prog codecH 36 [.ref (A.length + 1) 0, .int .i64 n, .int .u64 lo, .int .u64 hi] (Q A zS o b i true T) = some (.ret (.int .u64 0), Q A zS o b i true T) := by
  have := s36 A zS o ho b hb T n lo hi i true hi' hn
  unfold pNext at this
  rw [if_pos (.inl rfl)] at this
  exact this
theorem n36_short (A : St) (o : Own) (ho : o.shut A.length = o) (b : List UInt8) (hb : b.length ≤ 140737488355328) (n lo hi i : Nat) (hi' : i ≤ b.length) (hn : n ≤ 8) (h : b.length < i + n) (bad : Bool) (T : St) :
    Run Try.prog codecH 36 [.ref (A.length + 1) 0, .int .i64 n, .int .u64 lo, .int .u64 hi] (Q A zS o b i bad T) = some (.ret (.int .u64 0), Q A zS o b i true T) := by
  have := s36 A zS o ho b hb T n lo hi i bad hi' hn
  unfold pNext at this
  rw [if_pos (.inr h)] at this
  exact this
theorem n36_out (A : St) (o : Own) (ho : o.shut A.length = o) (b : List UInt8) (hb : b.length ≤ 140737488355328) (n lo hi i : Nat) (hn : n ≤ 8) (h : i + n ≤ b.length) (hx : num ((b.drop i).take n) < lo ∨ hi < num ((b.drop i).take n)) (T : St) :
    Run Try.prog codecH 36 [.ref (A.length + 1) 0, .int .i64 n, .int .u64 lo, .int .u64 hi] (Q A zS o b i false T) = some (.ret (.int .u64 0), Q A zS o b i true T) := by
  have := s36 A zS o ho b hb T n lo hi i false (by omega) hn
  unfold pNext at this
  rw [if_neg (by simp; omega), if_pos hx] at this
  exact this
theorem n36_ok (A : St) (o : Own) (ho : o.shut A.length = o) (b : List UInt8) (hb : b.length ≤ 140737488355328) (n lo hi i : Nat) (hn : n ≤ 8) (h : i + n ≤ b.length) (hx : ¬ (num ((b.drop i).take n) < lo ∨ hi < num ((b.drop i).take n))) (T : St) :
    Run Try.prog codecH 36 [.ref (A.length + 1) 0, .int .i64 n, .int .u64 lo, .int .u64 hi] (Q A zS o b i false T) = some (.ret (.int .u64 (num ((b.drop i).take n))), Q A zS o b (i + n) false T) := by
  have := s36 A zS o ho b hb T n lo hi i false (by omega) hn
  unfold pNext at this
  rw [if_neg (by simp; omega), if_neg hx] at this
  exact this
theorem num_at8 (b : List UInt8) (i : Nat) (h : i + 8 ≤ b.length) : num ((b.drop i).take 8) < 18446744073709551616 := by
  have := num_lt ((b.drop i).take 8)
  have e : ((b.drop i).take 8).length = 8 := by rw [List.length_take, List.length_drop]; omega
  rw [e, e8] at this
  exact this
theorem Own4.es {A : St} {o : Own} {es : Nat} {ds : List D} {J : St} (h : Own4 A o es ds J) : es = 2 ∨ ds = [] := by
  rcases h with ⟨_, _, h⟩ | ⟨h, _⟩
  · exact .inr h
  · exact .inl h
def outS (b : List UInt8) (iv nd : Int) (vo so : Own) (ve se : Nat) (vs : List D) : Except (Nat × Nat) (Shares × Nat) → D
  | .ok (sh, i) => outR b i false (.agg [.int .i64 iv, .int .i64 nd, .sl vo ve vs, .sl so se (sharesD sh)])
  | .error (p, _) => .tup [zeroRD, .int .i64 p, .int .i64 180]
def seOk (se : Nat) : Except (Nat × Nat) (Shares × Nat) → Prop
  | .ok (sh, i) => se = 2 ∨ sh = []
  | .error _ => True
theorem shutL_app (n : Nat) (a b : List D) : D.shutL n (a ++ b) = D.shutL n a ++ D.shutL n b := by simp [shutL_eq]
theorem s16_loop0 (A : St) (o : Own) (ho : o.shut A.length = o) (b : List UInt8) (hb : b.length ≤ 1048576) (n : Nat) (hn : n ≤ 256) (w : D) (iv nd : Int) (vo : Own) (ve : Nat) (vs : List D) : ∀ (m j i : Nat) (so : Own) (se : Nat) (ds : List D) (sh : Shares) (J : St),
    j + m = n → ds.length = sh.length → sh.length ≤ j → D.shutL A.length ds = sharesD sh → Own4 A so se ds J → i ≤ b.length →
    ∃ so' se', seOk se' (pSh b m i sh) ∧ iterK (f16_s0 (Run Try.prog codecH) (Dcall Try.prog codecH) A) (Env.mk [.sl o 1 (strBytes b), D.any, .ref A.length 0, D.any, D.any, .ref (A.length + 1) 0, .ref (A.length + 2) 0, .int .i64 n, D.any, D.any, D.any, .int .i64 j, D.any, D.any, D.any, D.any, D.any, D.any, D.any, D.any, D.any, D.any, D.any, D.any, D.any, D.any, D.any, D.any, D.any, D.any, D.any, D.any, D.any, D.any, D.any, D.any, D.any, D.any, D.any, D.any, w, D.any, D.any, D.any, D.any, D.any, D.any, D.any, D.any, D.any, D.any, D.any, D.any, D.any, D.any, D.any, D.any, D.any, D.any, D.any, D.any, D.any, D.any, D.any, D.any, D.any, D.any, D.any, D.any, D.any, D.any, D.any, D.any, D.any, D.any, D.any, D.any, D.any, D.any, D.any, D.any, D.any, D.any, D.any, D.any, D.any, D.any, D.any, D.any, D.any, D.any, D.any, D.any, D.any, D.any, D.any, D.any, D.any, D.any, D.any, D.any, D.any, D.any, D.any, D.any, D.any, D.any, D.any, D.any, D.any, D.any, D.any, D.any, D.any, D.any, D.any, D.any, D.any, D.any, D.any, D.any, D.any, D.any, D.any, D.any, D.any, D.any, D.any, D.any, D.any, D.any, D.any, D.any, D.any, D.any, D.any, D.any, D.any, D.any, D.any, D.any, D.any, D.any, D.any, D.any, D.any, D.any, D.any, D.any, D.any, D.any, D.any, D.any, D.any, D.any, D.any, D.any, D.any] []) (Q A zS o b i false (.cells [.int .i64 iv, .int .i64 nd, .sl vo ve vs, .sl so se ds] :: J)) =
      some (.ret (outS b iv nd (vo.shut A.length) so' ve se' (D.shutL A.length vs) (pSh b m i sh)), A) := by
  intro m
  induction m with
  | zero =>
    intro j i so se ds sh J hj hl hsj hs hown hi
    refine ⟨so.shut A.length, se, ?_, ?_⟩
    · rcases hown.es with h | h
      · exact .inl h
      · subst h; exact .inr (List.length_eq_zero_iff.1 hl.symm)
    · rw [qd6, s16_end A o b (by omega) n j i false w (.inl (by omega)) iv nd vo so ve se vs ds J, hs]
      rfl
  | succ m ih =>
    intro j i so se ds sh J hj hl hsj hs hown hi
    have hjn : j < n := by omega
    have fin : ∀ (p : Nat) (c : Nat), f16_s0 (Run Try.prog codecH) (Dcall Try.prog codecH) A (Env.mk [.sl o 1 (strBytes b), D.any, .ref A.length 0, D.any, D.any, .ref (A.length + 1) 0, .ref (A.length + 2) 0, .int .i64 n, D.any, D.any, D.any, .int .i64 j, D.any, D.any, D.any, D.any, D.any, D.any, D.any, D.any, D.any, D.any, D.any, D.any, D.any, D.any, D.any, D.any, D.any, D.any, D.any, D.any, D.any, D.any, D.any, D.any, D.any, D.any, D.any, D.any, w, D.any, D.any, D.any, D.any, D.any, D.any, D.any, D.any, D.any, D.any, D.any, D.any, D.any, D.any, D.any, D.any, D.any, D.any, D.any, D.any, D.any, D.any, D.any, D.any, D.any, D.any, D.any, D.any, D.any, D.any, D.any, D.any, D.any, D.any, D.any, D.any, D.any, D.any, D.any, D.any, D.any, D.any, D.any, D.any, D.any, D.any, D.any, D.any, D.any, D.any, D.any, D.any, D.any, D.any, D.any, D.any, D.any, D.any, D.any, D.any, D.any, D.any, D.any, D.any, D.any, D.any, D.any, D.any, D.any, D.any, D.any, D.any, D.any, D.any, D.any, D.any, D.any, D.any, D.any, D.any, D.any, D.any, D.any, D.any, D.any, D.any, D.any, D.any, D.any, D.any, D.any, D.any, D.any, D.any, D.any, D.any, D.any, D.any, D.any, D.any, D.any, D.any, D.any, D.any, D.any, D.any, D.any, D.any, D.any, D.any, D.any, D.any, D.any, D.any, D.any, D.any, D.any] []) (Q A zS o b i false (.cells [.int .i64 iv, .int .i64 nd, .sl vo ve vs, .sl so se ds] :: J)) =
      some (.inl ((Env.mk [.sl o 1 (strBytes b), D.any, .ref A.length 0, D.any, D.any, .ref (A.length + 1) 0, .ref (A.length + 2) 0, .int .i64 n, D.any, D.any, D.any, .int .i64 ((j + 1 : Nat) : Int), D.any, D.any, D.any, D.any, D.any, D.any, D.any, D.any, D.any, D.any, D.any, D.any, D.any, D.any, D.any, D.any, D.any, D.any, D.any, D.any, D.any, D.any, D.any, D.any, D.any, D.any, D.any, D.any, w, D.any, D.any, D.any, D.any, D.any, D.any, D.any, D.any, D.any, D.any, D.any, D.any, D.any, D.any, D.any, D.any, D.any, D.any, D.any, D.any, D.any, D.any, D.any, D.any, D.any, D.any, D.any, D.any, D.any, D.any, D.any, D.any, D.any, D.any, D.any, D.any, D.any, D.any, D.any, D.any, D.any, D.any, D.any, D.any, D.any, D.any, D.any, D.any, D.any, D.any, D.any, D.any, D.any, D.any, D.any, D.any, D.any, D.any, D.any, D.any, D.any, D.any, D.any, D.any, D.any, D.any, D.any, D.any, D.any, D.any, D.any, D.any, D.any, D.any, D.any, D.any, D.any, D.any, D.any, D.any, D.any, D.any, D.any, D.any, D.any, D.any, D.any, D.any, D.any, D.any, D.any, D.any, D.any, D.any, D.any, D.any, D.any, D.any, D.any, D.any, D.any, D.any, D.any, D.any, D.any, D.any, D.any, D.any, D.any, D.any, D.any, D.any, D.any, D.any, D.any, D.any, D.any] []), Q A zS o b p true (.cells [.int .i64 iv, .int .i64 nd, .sl vo ve vs, .sl so se ds] :: (J ++ [.cells [.int .u64 c, .sl .full 0 []]])))) →
      iterK (f16_s0 (Run Try.prog codecH) (Dcall Try.prog codecH) A) (Env.mk [.sl o 1 (strBytes b), D.any, .ref A.length 0, D.any, D.any, .ref (A.length + 1) 0, .ref (A.length + 2) 0, .int .i64 n, D.any, D.any, D.any, .int .i64 j, D.any, D.any, D.any, D.any, D.any, D.any, D.any, D.any, D.any, D.any, D.any, D.any, D.any, D.any, D.any, D.any, D.any, D.any, D.any, D.any, D.any, D.any, D.any, D.any, D.any, D.any, D.any, D.any, w, D.any, D.any, D.any, D.any, D.any, D.any, D.any, D.any, D.any, D.any, D.any, D.any, D.any, D.any, D.any, D.any, D.any, D.any, D.any, D.any, D.any, D.any, D.any, D.any, D.any, D.any, D.any, D.any, D.any, D.any, D.any, D.any, D.any, D.any, D.any, D.any, D.any, D.any, D.any, D.any, D.any, D.any, D.any, D.any, D.any, D.any, D.any, D.any, D.any, D.any, D.any, D.any, D.any, D.any, D.any, D.any, D.any, D.any, D.any, D.any, D.any, D.any, D.any, D.any, D.any, D.any, D.any, D.any, D.any, D.any, D.any, D.any, D.any, D.any, D.any, D.any, D.any, D.any, D.any, D.any, D.any, D.any, D.any, D.any, D.any, D.any, D.any, D.any, D.any, D.any, D.any, D.any, D.any, D.any, D.any, D.any, D.any, D.any, D.any, D.any, D.any, D.any, D.any, D.any, D.any, D.any, D.any, D.any, D.any, D.any, D.any, D.any, D.any, D.any, D.any, D.any, D.any] []) (Q A zS o b i false (.cells [.int .i64 iv, .int .i64 nd, .sl vo ve vs, .sl so se ds] :: J)) = some (.ret (.tup [zeroRD, .int .i64 p, .int .i64 180]), A) := by
      intro p c hstep
      rw [qd6, hstep]
      simp only [Option.bind_some, Sum.elim_inl]
      rw [qd6, s16_end A o b (by omega) n (j + 1) p true w (.inr rfl) iv nd vo so ve se vs ds _]
      simp only [Option.bind_some, Sum.elim_inr, outR, true_or, if_true]
    unfold pSh
    by_cases h : i + 8 ≤ b.length
    · rw [if_pos h]
      by_cases hc : num ((b.drop i).take 8) = 0
      · rw [if_pos hc]
        refine ⟨.sh, 2, trivial, ?_⟩
        exact fin i 0 (s16_bad A o b hb n j i w hjn hn _ J 0 i i true (fun T => n36_out A o ho b (by omega) 8 1 18446744073709551615 i (by omega) h (.inl (by omega)) T) (fun T => n36_bad A o ho b (by omega) 4 1 18446744073709551615 i (by omega) (by omega) T))
      · rw [if_neg hc]
        have a8 := fun T => n36_ok A o ho b (by omega) 8 1 18446744073709551615 i (by omega) h (by have := num_at8 b i h; omega) T
        by_cases h12 : i + 12 ≤ b.length
        · rw [if_pos h12]
          have hm4 := num_le4 ((b.drop (i + 8)).take 4) (by simp; omega)
          by_cases h0 : num ((b.drop (i + 8)).take 4) = 0
          · have e : (if num ((b.drop (i + 8)).take 4) ≤ 1048576 then if num ((b.drop (i + 8)).take 4) = 0 ∨ b.length < i + 12 + num ((b.drop (i + 8)).take 4) then Except.error (i + 8, i + 12) else pSh b m (i + 12 + num ((b.drop (i + 8)).take 4)) (sh ++ [⟨num ((b.drop i).take 8), false, (b.drop (i + 12)).take (num ((b.drop (i + 8)).take 4))⟩]) else Except.error (i + 8, i + 12)) = .error (i + 8, i + 12) := by
              rw [if_pos (by omega), if_pos (.inl h0)]
            rw [e]
            refine ⟨.sh, 2, trivial, ?_⟩
            exact fin (i + 8) _ (s16_bad A o b hb n j i w hjn hn _ J _ (i + 8) (i + 8) false a8 (fun T => n36_out A o ho b (by omega) 4 1 18446744073709551615 (i + 8) (by omega) (by omega) (.inl (by omega)) T))
          · have a4 := fun T => n36_ok A o ho b (by omega) 4 1 18446744073709551615 (i + 8) (by omega) (by omega) (by omega) T
            by_cases hov : b.length < i + 12 + num ((b.drop (i + 8)).take 4)
            · have e : (if num ((b.drop (i + 8)).take 4) ≤ 1048576 then if num ((b.drop (i + 8)).take 4) = 0 ∨ b.length < i + 12 + num ((b.drop (i + 8)).take 4) then Except.error (i + 8, i + 12) else pSh b m (i + 12 + num ((b.drop (i + 8)).take 4)) (sh ++ [⟨num ((b.drop i).take 8), false, (b.drop (i + 12)).take (num ((b.drop (i + 8)).take 4))⟩]) else Except.error (i + 8, i + 12)) = .error (i + 8, i + 12) := by
                split
                · rw [if_pos (.inr hov)]
                · rfl
              rw [e]
              refine ⟨.sh, 2, trivial, ?_⟩
              exact fin (i + 8) _ (s16_over A o b hb n j i w hjn hn _ J _ _ hm4 h12 hov a8 a4)
            · rw [if_pos (by omega), if_neg (by omega)]
              obtain ⟨so', J', k, hown', hstep⟩ := s16_good A o ho b hb n j i w hjn hn iv nd (.sl vo ve vs) so se ds (by omega) J hown rfl h hc h12 h0 (by omega)
              rw [qd6, hstep]
              simp only [Option.bind_some, Sum.elim_inl]
              refine ih (j + 1) (i + 12 + num ((b.drop (i + 8)).take 4)) so' 2 _ (sh ++ [⟨num ((b.drop i).take 8), false, (b.drop (i + 12)).take (num ((b.drop (i + 8)).take 4))⟩]) J' (by omega) (by simp [hl]) (by simp; omega) ?_ hown' (by omega)
              rw [shutL_app, hs]
              have : (Own.own (A.length + k) 0).shut A.length = .sh := qc3 0 (by omega)
              simp [sharesD, shD, ow, this]
        · rw [if_neg h12]
          refine ⟨.sh, 2, trivial, ?_⟩
          exact fin (i + 8) _ (s16_bad A o b hb n j i w hjn hn _ J _ (i + 8) (i + 8) false a8 (fun T => n36_short A o ho b (by omega) 4 1 18446744073709551615 (i + 8) (by omega) (by omega) (by omega) false T))
    · rw [if_neg h]
      refine ⟨.sh, 2, trivial, ?_⟩
      exact fin i 0 (s16_bad A o b hb n j i w hjn hn _ J 0 i i true (fun T => n36_short A o ho b (by omega) 8 1 18446744073709551615 i hi (by omega) (by omega) false T) (fun T => n36_bad A o ho b (by omega) 4 1 18446744073709551615 i hi (by omega) T))
end Go.Vm.Codec
