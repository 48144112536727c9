/- CodecAgain over data. -/
import Derived.Test.YtkhcbemdcehkdaaCodecT8
set_option linter.all false
namespace Go.Vm.Codec
open Go.Proofs
set_option linter.unusedVariables false
set_option linter.unusedSimpArgs false
set_option maxRecDepth 10000
set_option maxHeartbeats 4000000
def Bad {α : Type} (E : Except (Nat × Int) α) : Prop := ∃ p e, e ≠ 0 ∧ E = .error (p, e)
theorem pFr_bad (b : List UInt8) : (∃ x, pFr b = .ok x) ∨ Bad (pFr b) := by
  unfold pFr
  split
  · exact .inr ⟨_, _, by omega, rfl⟩
  split
  · exact .inr ⟨_, _, by omega, rfl⟩
  split
  · exact .inr ⟨_, _, by omega, rfl⟩
  split
  · exact .inr ⟨_, _, by omega, rfl⟩
  split
  · exact .inr ⟨_, _, by omega, rfl⟩
  · exact .inl ⟨_, rfl⟩
theorem pRes_bad (b : List UInt8) : (∃ x, pRes b = .ok x) ∨ Bad (pRes b) := by
  unfold pRes
  split
  · exact .inr ⟨_, _, by omega, rfl⟩
  split
  · exact .inr ⟨_, _, by omega, rfl⟩
  split
  · exact .inr ⟨_, _, by omega, rfl⟩
  split
  · exact .inr ⟨_, _, by omega, rfl⟩
  split
  · exact .inr ⟨_, _, by omega, rfl⟩
  split
  · exact .inr ⟨_, _, by omega, rfl⟩
  split
  · exact .inr ⟨_, _, by omega, rfl⟩
  split
  · exact .inr ⟨_, _, by omega, rfl⟩
  split
  · exact .inr ⟨_, _, by omega, rfl⟩
  · exact .inl ⟨_, rfl⟩
theorem pRes_F (r : List UInt8) : Bad (pRes (70 :: r)) := by
  unfold pRes
  split
  · exact ⟨_, _, by omega, rfl⟩
  · rw [if_pos (by simp)]; exact ⟨_, _, by omega, rfl⟩
theorem pFr_R (r : List UInt8) : Bad (pFr (82 :: r)) := by
  unfold pFr
  rw [if_pos (by simp)]; exact ⟨_, _, by omega, rfl⟩
theorem after_F {b : List UInt8} {x : Fr} (h : pFr b = .ok x) (t : List UInt8) (ht : t ≠ []) : Bad (pFr (b ++ t)) ∧ Bad (pRes (b ++ t)) := by
  obtain ⟨rfl, ho, hb⟩ := pFr_read h
  constructor
  · rw [pFr_print ho hb, if_neg ht]; exact ⟨_, _, by omega, rfl⟩
  · rw [bytes_eq]; exact pRes_F _
theorem now_F {b : List UInt8} {x : Fr} (h : pFr b = .ok x) : Bad (pRes b) := by
  obtain ⟨rfl, ho, hb⟩ := pFr_read h
  have := bytes_eq x []
  rw [List.append_nil] at this
  rw [this]; exact pRes_F _
theorem after_R {b : List UInt8} {x} (h : pRes b = .ok x) (t : List UInt8) (ht : t ≠ []) : Bad (pFr (b ++ t)) ∧ Bad (pRes (b ++ t)) := by
  obtain ⟨i, n, v, sh⟩ := x
  obtain ⟨rfl, hE, hu, hv⟩ := pRes_read h
  constructor
  · rw [resBytes_eq]; exact pFr_R _
  · by_cases hl : (resBytes i n v sh ++ t).length ≤ 1048576
    · rw [pRes_print hE hu hv t hl, if_neg ht]; exact ⟨_, _, by omega, rfl⟩
    · unfold pRes
      rw [if_pos (by omega)]; exact ⟨_, _, by omega, rfl⟩
theorem now_R {b : List UInt8} {x} (h : pRes b = .ok x) : Bad (pFr b) := by
  obtain ⟨i, n, v, sh⟩ := x
  obtain ⟨rfl, hE, hu, hv⟩ := pRes_read h
  have := resBytes_eq i n v sh []
  rw [List.append_nil] at this
  rw [this]; exact pFr_R _
theorem after {b : List UInt8} (h : ¬ (Bad (pFr b) ∧ Bad (pRes b))) (t : List UInt8) (ht : t ≠ []) : Bad (pFr (b ++ t)) ∧ Bad (pRes (b ++ t)) := by
  rcases pFr_bad b with ⟨x, hx⟩ | h1
  · exact after_F hx t ht
  · rcases pRes_bad b with ⟨y, hy⟩ | h2
    · exact after_R hy t ht
    · exact (h ⟨h1, h2⟩).elim
theorem before {b : List UInt8} (h : ¬ (Bad (pFr b) ∧ Bad (pRes b))) (n : Nat) (hn : n < b.length) : Bad (pFr (b.take n)) ∧ Bad (pRes (b.take n)) := by
  apply Classical.byContradiction
  intro hc
  have := after hc (b.drop n) (by
    intro e
    have := congrArg List.length e
    rw [List.length_drop, List.length_nil] at this
    omega)
  rw [List.take_append_drop] at this
  exact h this
theorem st_zero (B : St) (n : Nat) (cs : List D) (hv : allCells cs = true) (hn : Nat.beq cs.length n = true) : storeO true n (.ref B.length 0) (.agg cs) (B ++ [.cells cs]) = some (B ++ [.cells cs]) := by
  rw [storeA (cs := cs) (by rw [get_app _ _ _ 0 (by omega)]; rfl) hv hn hn, set_app _ _ 0 _ _ (by omega)]
  rfl
theorem zF0 (A : St) : storeO true 6 (.ref A.length 0) zeroFD (A ++ [.cells [.int .u8 0, .int .u32 0, .int .u32 0, .int .u64 0, .int .u64 0, .sl .full 0 []]]) = some (A ++ [.cells [.int .u8 0, .int .u32 0, .int .u32 0, .int .u64 0, .int .u64 0, .sl .full 0 []]]) := by
  have := st_zero (A ++ []) 6 [.int .u8 0, .int .u32 0, .int .u32 0, .int .u64 0, .int .u64 0, .sl .full 0 []] rfl rfl
  simpa [zeroFD] using this
theorem zF3 (A : St) (s0 s1 s2 : Slot) : storeO true 6 (.ref (A.length + 3) 0) zeroFD (A ++ [s0, s1, s2, .cells [.int .u8 0, .int .u32 0, .int .u32 0, .int .u64 0, .int .u64 0, .sl .full 0 []]]) = some (A ++ [s0, s1, s2, .cells [.int .u8 0, .int .u32 0, .int .u32 0, .int .u64 0, .int .u64 0, .sl .full 0 []]]) := by
  have := st_zero (A ++ [s0, s1, s2]) 6 [.int .u8 0, .int .u32 0, .int .u32 0, .int .u64 0, .int .u64 0, .sl .full 0 []] rfl rfl
  simpa [zeroFD] using this
theorem zF5 (A : St) (s0 s1 s2 s3 s4 : Slot) : storeO true 6 (.ref (A.length + 5) 0) zeroFD (A ++ [s0, s1, s2, s3, s4, .cells [.int .u8 0, .int .u32 0, .int .u32 0, .int .u64 0, .int .u64 0, .sl .full 0 []]]) = some (A ++ [s0, s1, s2, s3, s4, .cells [.int .u8 0, .int .u32 0, .int .u32 0, .int .u64 0, .int .u64 0, .sl .full 0 []]]) := by
  have := st_zero (A ++ [s0, s1, s2, s3, s4]) 6 [.int .u8 0, .int .u32 0, .int .u32 0, .int .u64 0, .int .u64 0, .sl .full 0 []] rfl rfl
  simpa [zeroFD] using this
theorem zR1 (A : St) (s0 : Slot) : storeO true 4 (.ref (A.length + 1) 0) zeroRD (A ++ [s0, .cells [.int .i64 0, .int .i64 0, .sl .full 0 [], .sl .full 0 []]]) = some (A ++ [s0, .cells [.int .i64 0, .int .i64 0, .sl .full 0 [], .sl .full 0 []]]) := by
  have := st_zero (A ++ [s0]) 4 [.int .i64 0, .int .i64 0, .sl .full 0 [], .sl .full 0 []] rfl rfl
  simpa [zeroRD] using this
theorem zR4 (A : St) (s0 s1 s2 s3 : Slot) : storeO true 4 (.ref (A.length + 4) 0) zeroRD (A ++ [s0, s1, s2, s3, .cells [.int .i64 0, .int .i64 0, .sl .full 0 [], .sl .full 0 []]]) = some (A ++ [s0, s1, s2, s3, .cells [.int .i64 0, .int .i64 0, .sl .full 0 [], .sl .full 0 []]]) := by
  have := st_zero (A ++ [s0, s1, s2, s3]) 4 [.int .i64 0, .int .i64 0, .sl .full 0 [], .sl .full 0 []] rfl rfl
  simpa [zeroRD] using this
theorem zR6 (A : St) (s0 s1 s2 s3 s4 s5 : Slot) : storeO true 4 (.ref (A.length + 6) 0) zeroRD (A ++ [s0, s1, s2, s3, s4, s5, .cells [.int .i64 0, .int .i64 0, .sl .full 0 [], .sl .full 0 []]]) = some (A ++ [s0, s1, s2, s3, s4, s5, .cells [.int .i64 0, .int .i64 0, .sl .full 0 [], .sl .full 0 []]]) := by
  have := st_zero (A ++ [s0, s1, s2, s3, s4, s5]) 4 [.int .i64 0, .int .i64 0, .sl .full 0 [], .sl .full 0 []] rfl rfl
  simpa [zeroRD] using this
theorem stF0 (A : St) (x : Fr) (o : Own) : storeO true 6 (.ref A.length 0) (x.D o) (A ++ [.cells [.int .u8 0, .int .u32 0, .int .u32 0, .int .u64 0, .int .u64 0, .sl .full 0 []]]) = some (A ++ [.cells (x.C o)]) := by
  unfold Fr.D frameD
  rw [storeA (cs := [.int .u8 0, .int .u32 0, .int .u32 0, .int .u64 0, .int .u64 0, .sl .full 0 []]) (by rw [get_app _ _ _ 0 (by omega)]; rfl) rfl rfl rfl, set_app _ _ 0 _ _ (by omega)]
  rfl
theorem stR1 (A : St) (s0 : Slot) (i n : Int) (v : Stamps) (l : Shares) : storeO true 4 (.ref (A.length + 1) 0) (resD i n .sh v .sh l) (A ++ [s0, .cells [.int .i64 0, .int .i64 0, .sl .full 0 [], .sl .full 0 []]]) = some (A ++ [s0, .cells (resC i n .sh v .sh l)]) := by
  unfold resD resC
  rw [storeA (cs := [.int .i64 0, .int .i64 0, .sl .full 0 [], .sl .full 0 []]) (by rw [get_app _ _ _ 1 (by omega)]; rfl) rfl rfl rfl, set_app _ _ 1 _ _ (by omega)]
  rfl
theorem app_all (A : St) (s0 s1 : Slot) (b : List UInt8) (hb : b ≠ []) (hl : b.length ≤ 140737488355328) : appendO 1 1 (.sl .full 1 []) (.sl .sh 1 (strBytes b)) (A ++ [s0, s1]) = some (.sl (.own (A.length + 2) 0) 1 (strBytes b), A ++ [s0, s1, .tok b.length]) := by
  rw [append_full (new := strBytes b) (by simp [appendNew, esOk]) (by cases b with
    | nil => exact (hb rfl).elim
    | cons c r => rfl) (by simp [roomOk]; omega) (by simp; omega)]
  simp
theorem app_one (A : St) (s0 s1 : Slot) (b : List UInt8) (m : UInt8) (hl : b.length + 1 ≤ 140737488355328) : appendO 1 1 (.sl (.own (A.length + 2) 0) 1 (strBytes b)) (.sl .full 1 [.int .u8 m.toNat]) (A ++ [s0, s1, .tok b.length]) = some (.sl (.own (A.length + 2) 0) 1 (strBytes (b ++ [m])), A ++ [s0, s1, .tok (b.length + 1)]) := by
  rw [qar (by rw [get_app _ _ _ 2 rfl]; rfl) hl, set_app _ _ 2 _ _ rfl]
  rfl
theorem slice_cut (b : List UInt8) (n : Nat) (h : n < b.length) (o : Own) : sliceSlO 1 (.sl o 1 (strBytes b)) none (some (.int .i64 n)) none = some (.sl .sh 1 (strBytes (b.take n))) := by
  have h1 : n ≤ b.length := by omega
  have h2 : n ≠ b.length := by omega
  simp [sliceSlO, optInt, D.int?, esOk, sliceSl, h1, sliceOwn, h2, strBytes_take]
theorem neq_same (n : Nat) (l : Bool) (a : List UInt8) : binO .neq n l (.str a) (.str a) = some (.bool false) := by
  simp [binO, strBinD]
theorem law8 (A : St) (b : List UInt8) (hb : b.length ≤ 1048576) (cut : Int) (m : UInt8) : ∃ A', Run Try.prog codecH 8 [.sl .sh 1 (strBytes b), .int .i64 cut, .int .u8 m.toNat] A = some (.ret (.bool true), A') := by
  refine ⟨A, ?_⟩
  by_cases hbad : Bad (pFr b) ∧ Bad (pRes b)
  · obtain ⟨⟨p, e, he, hp⟩, ⟨q, g, hg, hq⟩⟩ := hbad
    have h11 : ∀ A, Run Try.prog codecH 11 [.sl .sh 1 (strBytes b)] A = some (.ret (.tup [zeroFD, .int .i64 p, .int .i64 e]), A) := fun A => by rw [s11 A .sh rfl b (by omega), hp]; rfl
    have h15 : ∀ A, Run Try.prog codecH 15 [.sl .sh 1 (strBytes b)] A = some (.ret (.tup [zeroRD, .int .i64 q, .int .i64 g]), A) := fun A => by rw [s15 A .sh rfl b (by omega), hq]; rfl
    rw [r8]
    unfold f8
    have hz := zF0
    have ha := zR1
    (repeat (first | (first | with_reducible refine qdn ?_ | with_reducible refine qdp ?_ | with_reducible refine qdq ?_ | with_reducible refine qdt ?_ | with_reducible refine qdo ?_ | with_reducible refine qc0 ?_ | with_reducible refine qdg ?_ | with_reducible refine qbq ?_ | with_reducible refine qdw ?_ | with_reducible refine qdx ?_ | with_reducible refine qdr ?_ | with_reducible refine qds ?_ | with_reducible refine qdv ?_ | with_reducible refine qdu ?_ | with_reducible refine qdf ?_) | ((conv => lhs; arg 1; simp (disch := first | omega | assumption) only [qc7, qde, qb3, qbc, qap, qb4, qch, Sum.elim_inl, Sum.elim_inr, Option.map_some, Option.map_none, Option.bind_some, Option.bind_none, Option.bind_eq_bind, qd0, qdz, qcy, qcq, qcs, qct, qcu, qcv, qcw, qcx, qcr, shl8, or8, shr8, qbw, qbr, qbo, qcm, qbn, qb6, qco, qcn, qbp, qa6, qaz, qau, qaj, qdm, qdk, qdj, qdl, qbt, qbu, qbv, qb5, qci, qcj, qck, qcl, qd3, qd4, qd1, qd2, qaa, qbg, qba, qar, qak, qae, qaf, qaw, qb9, qbx, qbe, qbz, qbd, qcd, qbi, qcb, qc3, qce, qby, qbj, qa0, qcc, qbf, qay, qdh, qcf, qc5, qc6, qbh, qao, qb8, qa7, qa5, qaq, qah, qan, qa4, qa3, qat, qai, qad, qac, qab, qb2, qa2, qbm, qb1, qb0, qa8, List.take_length, List.map_nil, List.drop_zero, List.drop_succ_cons, Nat.zero_add, Nat.add_zero, qa9, qbb, qc4, qbl, qbk, qc8, qb7, qca, qax, qa1, qas, qc1, qbs, qdb, qcp, qal, qam, qag, qav, cond_true, cond_false, qcz, qc9, qc2, qdd, qdi, qcg, qdy, qdc, qda, ofA2, ofA3, ofA4, ofA6, packD, List.take_left, List.length_append, List.length_cons, List.length_nil, List.length_set, List.append_assoc, List.cons_append, List.nil_append, s14, un_not, Bool.not_true, extract0, extract1, extract2, Nat.add_assoc, Nat.reduceAdd, h11, h15, hz, ha]); (first | with_reducible refine qdn ?_ | with_reducible refine qdp ?_ | with_reducible refine qdq ?_ | with_reducible refine qdt ?_ | with_reducible refine qdo ?_ | with_reducible refine qc0 ?_ | with_reducible refine qdg ?_ | with_reducible refine qbq ?_ | with_reducible refine qdw ?_ | with_reducible refine qdx ?_ | with_reducible refine qdr ?_ | with_reducible refine qds ?_ | with_reducible refine qdv ?_ | with_reducible refine qdu ?_ | with_reducible refine qdf ?_))))
    simp only [qc7, qde, qb3, qbc, qap, qb4, qch, Sum.elim_inl, Sum.elim_inr, Option.map_some, Option.map_none, Option.bind_some, Option.bind_none, Option.bind_eq_bind, qd0, qdz, qcy, qcq, qcs, qct, qcu, qcv, qcw, qcx, qcr, shl8, or8, shr8, qbw, qbr, qbo, qcm, qbn, qb6, qco, qcn, qbp, qa6, qaz, qau, qaj, qdm, qdk, qdj, qdl, qbt, qbu, qbv, qb5, qci, qcj, qck, qcl, qd3, qd4, qd1, qd2, qaa, qbg, qba, qar, qak, qae, qaf, qaw, qb9, qbx, qbe, qbz, qbd, qcd, qbi, qcb, qc3, qce, qby, qbj, qa0, qcc, qbf, qay, qdh, qcf, qc5, qc6, qbh, qao, qb8, qa7, qa5, qaq, qah, qan, qa4, qa3, qat, qai, qad, qac, qab, qb2, qa2, qbm, qb1, qb0, qa8, List.take_length, List.map_nil, List.drop_zero, List.drop_succ_cons, Nat.zero_add, Nat.add_zero, qa9, qbb, qc4, qbl, qbk, qc8, qb7, qca, qax, qa1, qas, qc1, qbs, qdb, qcp, qal, qam, qag, qav, cond_true, cond_false, qcz, qc9, qc2, qdd, qdi, qcg, qdy, qdc, qda, ofA2, ofA3, ofA4, ofA6, packD, List.take_left, List.length_append, List.length_cons, List.length_nil, List.length_set]
  · have h1 := after hbad [m] (by simp)
    obtain ⟨⟨p, e, he, hp⟩, ⟨q, g, hg, hq⟩⟩ := h1
    have own2 : ∀ (s0 s1 s2 : Slot) (T : St), (Own.own (A.length + 2) 0).shut (A ++ (s0 :: s1 :: s2 :: T)).length = .own (A.length + 2) 0 := fun s0 s1 s2 T => qc5 0 (by simp)
    have h11L : ∀ (s0 s1 s2 : Slot) (T : St), Run Try.prog codecH 11 [.sl (.own (A.length + 2) 0) 1 (strBytes (b ++ [m]))] (A ++ (s0 :: s1 :: s2 :: T)) = some (.ret (.tup [zeroFD, .int .i64 p, .int .i64 e]), A ++ (s0 :: s1 :: s2 :: T)) := fun s0 s1 s2 T => by rw [s11 _ _ (own2 ..) _ (by simp; omega), hp]; rfl
    have h15L : ∀ (s0 s1 s2 : Slot) (T : St), Run Try.prog codecH 15 [.sl (.own (A.length + 2) 0) 1 (strBytes (b ++ [m]))] (A ++ (s0 :: s1 :: s2 :: T)) = some (.ret (.tup [zeroRD, .int .i64 q, .int .i64 g]), A ++ (s0 :: s1 :: s2 :: T)) := fun s0 s1 s2 T => by rw [s15 _ _ (own2 ..) _ (by simp; omega), hq]; rfl
    rcases pFr_bad b with ⟨x, hx⟩ | hFb
    · obtain ⟨q', g', hg', hq'⟩ := now_F hx
      obtain ⟨hbx, xo, xb⟩ := pFr_read hx
      have h11 : ∀ A, Run Try.prog codecH 11 [.sl .sh 1 (strBytes b)] A = some (.ret (.tup [x.D (bow x.body), .int .i64 0, .int .i64 0]), A) := fun A => by rw [s11 A .sh rfl b (by omega), hx]; rfl
      have h15 : ∀ A, Run Try.prog codecH 15 [.sl .sh 1 (strBytes b)] A = some (.ret (.tup [zeroRD, .int .i64 q', .int .i64 g']), A) := fun A => by rw [s15 A .sh rfl b (by omega), hq']; rfl
      have h9 : ∀ A, Run Try.prog codecH 9 [x.D (bow x.body)] A = some (.ret (.tup [.sl .sh 1 (strBytes b), .int .i64 0]), A) := fun A => by
        have := s9 x.k x.f x.t x.s x.a xo.k xo.f xo.t xo.s xo.a x.body (bow x.body) 1 (by simp [esOk]) A xb
        have e' : frameBytes x.k x.f x.t x.s x.a x.body = b := hbx.symm
        rw [e'] at this
        exact this
      have lX : ∀ T, loadO true 6 (.ref A.length 0) (A ++ (.cells (x.C (bow x.body)) :: T)) = some (x.D (bow x.body)) := fun T => by rw [ld0]; rfl
      have hne : b ≠ [] := by rintro rfl; cases hx
      have ha := fun s0 s1 => app_all A s0 s1 b hne (by omega)
      have ho1 := fun s0 s1 => app_one A s0 s1 b m (by omega)
      clear hbx
      by_cases hc0 : cut < 0
      · rw [r8]
        unfold f8
        (repeat (first | (first | with_reducible refine qdn ?_ | with_reducible refine qdp ?_ | with_reducible refine qdq ?_ | with_reducible refine qdt ?_ | with_reducible refine qdo ?_ | with_reducible refine qc0 ?_ | with_reducible refine qdg ?_ | with_reducible refine qbq ?_ | with_reducible refine qdw ?_ | with_reducible refine qdx ?_ | with_reducible refine qdr ?_ | with_reducible refine qds ?_ | with_reducible refine qdv ?_ | with_reducible refine qdu ?_ | with_reducible refine qdf ?_) | ((conv => lhs; arg 1; simp (disch := first | omega | assumption) only [qc7, qde, qb3, qbc, qap, qb4, qch, Sum.elim_inl, Sum.elim_inr, Option.map_some, Option.map_none, Option.bind_some, Option.bind_none, Option.bind_eq_bind, qd0, qdz, qcy, qcq, qcs, qct, qcu, qcv, qcw, qcx, qcr, shl8, or8, shr8, qbw, qbr, qbo, qcm, qbn, qb6, qco, qcn, qbp, qa6, qaz, qau, qaj, qdm, qdk, qdj, qdl, qbt, qbu, qbv, qb5, qci, qcj, qck, qcl, qd3, qd4, qd1, qd2, qaa, qbg, qba, qar, qak, qae, qaf, qaw, qb9, qbx, qbe, qbz, qbd, qcd, qbi, qcb, qc3, qce, qby, qbj, qa0, qcc, qbf, qay, qdh, qcf, qc5, qc6, qbh, qao, qb8, qa7, qa5, qaq, qah, qan, qa4, qa3, qat, qai, qad, qac, qab, qb2, qa2, qbm, qb1, qb0, qa8, List.take_length, List.map_nil, List.drop_zero, List.drop_succ_cons, Nat.zero_add, Nat.add_zero, qa9, qbb, qc4, qbl, qbk, qc8, qb7, qca, qax, qa1, qas, qc1, qbs, qdb, qcp, qal, qam, qag, qav, cond_true, cond_false, qcz, qc9, qc2, qdd, qdi, qcg, qdy, qdc, qda, ofA2, ofA3, ofA4, ofA6, packD, List.take_left, List.length_append, List.length_cons, List.length_nil, List.length_set, List.append_assoc, List.cons_append, List.nil_append, s14, un_not, Bool.not_true, extract0, extract1, extract2, Nat.add_assoc, Nat.reduceAdd, h11, h15, h11L, h15L, ha, ho1, qba, neq_same, h9, lX, stF0, zR1, zF3, zR4]); (first | with_reducible refine qdn ?_ | with_reducible refine qdp ?_ | with_reducible refine qdq ?_ | with_reducible refine qdt ?_ | with_reducible refine qdo ?_ | with_reducible refine qc0 ?_ | with_reducible refine qdg ?_ | with_reducible refine qbq ?_ | with_reducible refine qdw ?_ | with_reducible refine qdx ?_ | with_reducible refine qdr ?_ | with_reducible refine qds ?_ | with_reducible refine qdv ?_ | with_reducible refine qdu ?_ | with_reducible refine qdf ?_))))
        simp only [qc7, qde, qb3, qbc, qap, qb4, qch, Sum.elim_inl, Sum.elim_inr, Option.map_some, Option.map_none, Option.bind_some, Option.bind_none, Option.bind_eq_bind, qd0, qdz, qcy, qcq, qcs, qct, qcu, qcv, qcw, qcx, qcr, shl8, or8, shr8, qbw, qbr, qbo, qcm, qbn, qb6, qco, qcn, qbp, qa6, qaz, qau, qaj, qdm, qdk, qdj, qdl, qbt, qbu, qbv, qb5, qci, qcj, qck, qcl, qd3, qd4, qd1, qd2, qaa, qbg, qba, qar, qak, qae, qaf, qaw, qb9, qbx, qbe, qbz, qbd, qcd, qbi, qcb, qc3, qce, qby, qbj, qa0, qcc, qbf, qay, qdh, qcf, qc5, qc6, qbh, qao, qb8, qa7, qa5, qaq, qah, qan, qa4, qa3, qat, qai, qad, qac, qab, qb2, qa2, qbm, qb1, qb0, qa8, List.take_length, List.map_nil, List.drop_zero, List.drop_succ_cons, Nat.zero_add, Nat.add_zero, qa9, qbb, qc4, qbl, qbk, qc8, qb7, qca, qax, qa1, qas, qc1, qbs, qdb, qcp, qal, qam, qag, qav, cond_true, cond_false, qcz, qc9, qc2, qdd, qdi, qcg, qdy, qdc, qda, ofA2, ofA3, ofA4, ofA6, packD, List.take_left, List.length_append, List.length_cons, List.length_nil, List.length_set]
      · by_cases hc1 : (b.length : Int) ≤ cut
        · rw [r8]
          unfold f8
          (repeat (first | (first | with_reducible refine qdn ?_ | with_reducible refine qdp ?_ | with_reducible refine qdq ?_ | with_reducible refine qdt ?_ | with_reducible refine qdo ?_ | with_reducible refine qc0 ?_ | with_reducible refine qdg ?_ | with_reducible refine qbq ?_ | with_reducible refine qdw ?_ | with_reducible refine qdx ?_ | with_reducible refine qdr ?_ | with_reducible refine qds ?_ | with_reducible refine qdv ?_ | with_reducible refine qdu ?_ | with_reducible refine qdf ?_) | ((conv => lhs; arg 1; simp (disch := first | omega | assumption) only [qc7, qde, qb3, qbc, qap, qb4, qch, Sum.elim_inl, Sum.elim_inr, Option.map_some, Option.map_none, Option.bind_some, Option.bind_none, Option.bind_eq_bind, qd0, qdz, qcy, qcq, qcs, qct, qcu, qcv, qcw, qcx, qcr, shl8, or8, shr8, qbw, qbr, qbo, qcm, qbn, qb6, qco, qcn, qbp, qa6, qaz, qau, qaj, qdm, qdk, qdj, qdl, qbt, qbu, qbv, qb5, qci, qcj, qck, qcl, qd3, qd4, qd1, qd2, qaa, qbg, qba, qar, qak, qae, qaf, qaw, qb9, qbx, qbe, qbz, qbd, qcd, qbi, qcb, qc3, qce, qby, qbj, qa0, qcc, qbf, qay, qdh, qcf, qc5, qc6, qbh, qao, qb8, qa7, qa5, qaq, qah, qan, qa4, qa3, qat, qai, qad, qac, qab, qb2, qa2, qbm, qb1, qb0, qa8, List.take_length, List.map_nil, List.drop_zero, List.drop_succ_cons, Nat.zero_add, Nat.add_zero, qa9, qbb, qc4, qbl, qbk, qc8, qb7, qca, qax, qa1, qas, qc1, qbs, qdb, qcp, qal, qam, qag, qav, cond_true, cond_false, qcz, qc9, qc2, qdd, qdi, qcg, qdy, qdc, qda, ofA2, ofA3, ofA4, ofA6, packD, List.take_left, List.length_append, List.length_cons, List.length_nil, List.length_set, List.append_assoc, List.cons_append, List.nil_append, s14, un_not, Bool.not_true, extract0, extract1, extract2, Nat.add_assoc, Nat.reduceAdd, h11, h15, h11L, h15L, ha, ho1, qba, neq_same, h9, lX, stF0, zR1, zF3, zR4]); (first | with_reducible refine qdn ?_ | with_reducible refine qdp ?_ | with_reducible refine qdq ?_ | with_reducible refine qdt ?_ | with_reducible refine qdo ?_ | with_reducible refine qc0 ?_ | with_reducible refine qdg ?_ | with_reducible refine qbq ?_ | with_reducible refine qdw ?_ | with_reducible refine qdx ?_ | with_reducible refine qdr ?_ | with_reducible refine qds ?_ | with_reducible refine qdv ?_ | with_reducible refine qdu ?_ | with_reducible refine qdf ?_))))
          simp only [qc7, qde, qb3, qbc, qap, qb4, qch, Sum.elim_inl, Sum.elim_inr, Option.map_some, Option.map_none, Option.bind_some, Option.bind_none, Option.bind_eq_bind, qd0, qdz, qcy, qcq, qcs, qct, qcu, qcv, qcw, qcx, qcr, shl8, or8, shr8, qbw, qbr, qbo, qcm, qbn, qb6, qco, qcn, qbp, qa6, qaz, qau, qaj, qdm, qdk, qdj, qdl, qbt, qbu, qbv, qb5, qci, qcj, qck, qcl, qd3, qd4, qd1, qd2, qaa, qbg, qba, qar, qak, qae, qaf, qaw, qb9, qbx, qbe, qbz, qbd, qcd, qbi, qcb, qc3, qce, qby, qbj, qa0, qcc, qbf, qay, qdh, qcf, qc5, qc6, qbh, qao, qb8, qa7, qa5, qaq, qah, qan, qa4, qa3, qat, qai, qad, qac, qab, qb2, qa2, qbm, qb1, qb0, qa8, List.take_length, List.map_nil, List.drop_zero, List.drop_succ_cons, Nat.zero_add, Nat.add_zero, qa9, qbb, qc4, qbl, qbk, qc8, qb7, qca, qax, qa1, qas, qc1, qbs, qdb, qcp, qal, qam, qag, qav, cond_true, cond_false, qcz, qc9, qc2, qdd, qdi, qcg, qdy, qdc, qda, ofA2, ofA3, ofA4, ofA6, packD, List.take_left, List.length_append, List.length_cons, List.length_nil, List.length_set]
        · obtain ⟨n, rfl⟩ : ∃ n : Nat, cut = n := ⟨cut.toNat, by omega⟩
          have h2 := before hbad n (by omega)
          obtain ⟨⟨p2, e2, he2, hp2⟩, ⟨q2, g2, hg2, hq2⟩⟩ := h2
          have hcut := fun o => slice_cut b n (by omega) o
          have h11C : ∀ A, Run Try.prog codecH 11 [.sl .sh 1 (strBytes (b.take n))] A = some (.ret (.tup [zeroFD, .int .i64 p2, .int .i64 e2]), A) := fun A => by rw [s11 A .sh rfl _ (by rw [List.length_take]; omega), hp2]; rfl
          have h15C : ∀ A, Run Try.prog codecH 15 [.sl .sh 1 (strBytes (b.take n))] A = some (.ret (.tup [zeroRD, .int .i64 q2, .int .i64 g2]), A) := fun A => by rw [s15 A .sh rfl _ (by rw [List.length_take]; omega), hq2]; rfl
          rw [r8]
          unfold f8
          (repeat (first | (first | with_reducible refine qdn ?_ | with_reducible refine qdp ?_ | with_reducible refine qdq ?_ | with_reducible refine qdt ?_ | with_reducible refine qdo ?_ | with_reducible refine qc0 ?_ | with_reducible refine qdg ?_ | with_reducible refine qbq ?_ | with_reducible refine qdw ?_ | with_reducible refine qdx ?_ | with_reducible refine qdr ?_ | with_reducible refine qds ?_ | with_reducible refine qdv ?_ | with_reducible refine qdu ?_ | with_reducible refine qdf ?_) | ((conv => lhs; arg 1; simp (disch := first | omega | assumption) only [qc7, qde, qb3, qbc, qap, qb4, qch, Sum.elim_inl, Sum.elim_inr, Option.map_some, Option.map_none, Option.bind_some, Option.bind_none, Option.bind_eq_bind, qd0, qdz, qcy, qcq, qcs, qct, qcu, qcv, qcw, qcx, qcr, shl8, or8, shr8, qbw, qbr, qbo, qcm, qbn, qb6, qco, qcn, qbp, qa6, qaz, qau, qaj, qdm, qdk, qdj, qdl, qbt, qbu, qbv, qb5, qci, qcj, qck, qcl, qd3, qd4, qd1, qd2, qaa, qbg, qba, qar, qak, qae, qaf, qaw, qb9, qbx, qbe, qbz, qbd, qcd, qbi, qcb, qc3, qce, qby, qbj, qa0, qcc, qbf, qay, qdh, qcf, qc5, qc6, qbh, qao, qb8, qa7, qa5, qaq, qah, qan, qa4, qa3, qat, qai, qad, qac, qab, qb2, qa2, qbm, qb1, qb0, qa8, List.take_length, List.map_nil, List.drop_zero, List.drop_succ_cons, Nat.zero_add, Nat.add_zero, qa9, qbb, qc4, qbl, qbk, qc8, qb7, qca, qax, qa1, qas, qc1, qbs, qdb, qcp, qal, qam, qag, qav, cond_true, cond_false, qcz, qc9, qc2, qdd, qdi, qcg, qdy, qdc, qda, ofA2, ofA3, ofA4, ofA6, packD, List.take_left, List.length_append, List.length_cons, List.length_nil, List.length_set, List.append_assoc, List.cons_append, List.nil_append, s14, un_not, Bool.not_true, extract0, extract1, extract2, Nat.add_assoc, Nat.reduceAdd, h11, h15, h11L, h15L, ha, ho1, qba, neq_same, h9, lX, stF0, zR1, zF3, zR4, zF5, zR6, hcut, h11C, h15C]); (first | with_reducible refine qdn ?_ | with_reducible refine qdp ?_ | with_reducible refine qdq ?_ | with_reducible refine qdt ?_ | with_reducible refine qdo ?_ | with_reducible refine qc0 ?_ | with_reducible refine qdg ?_ | with_reducible refine qbq ?_ | with_reducible refine qdw ?_ | with_reducible refine qdx ?_ | with_reducible refine qdr ?_ | with_reducible refine qds ?_ | with_reducible refine qdv ?_ | with_reducible refine qdu ?_ | with_reducible refine qdf ?_))))
          simp only [qc7, qde, qb3, qbc, qap, qb4, qch, Sum.elim_inl, Sum.elim_inr, Option.map_some, Option.map_none, Option.bind_some, Option.bind_none, Option.bind_eq_bind, qd0, qdz, qcy, qcq, qcs, qct, qcu, qcv, qcw, qcx, qcr, shl8, or8, shr8, qbw, qbr, qbo, qcm, qbn, qb6, qco, qcn, qbp, qa6, qaz, qau, qaj, qdm, qdk, qdj, qdl, qbt, qbu, qbv, qb5, qci, qcj, qck, qcl, qd3, qd4, qd1, qd2, qaa, qbg, qba, qar, qak, qae, qaf, qaw, qb9, qbx, qbe, qbz, qbd, qcd, qbi, qcb, qc3, qce, qby, qbj, qa0, qcc, qbf, qay, qdh, qcf, qc5, qc6, qbh, qao, qb8, qa7, qa5, qaq, qah, qan, qa4, qa3, qat, qai, qad, qac, qab, qb2, qa2, qbm, qb1, qb0, qa8, List.take_length, List.map_nil, List.drop_zero, List.drop_succ_cons, Nat.zero_add, Nat.add_zero, qa9, qbb, qc4, qbl, qbk, qc8, qb7, qca, qax, qa1, qas, qc1, qbs, qdb, qcp, qal, qam, qag, qav, cond_true, cond_false, qcz, qc9, qc2, qdd, qdi, qcg, qdy, qdc, qda, ofA2, ofA3, ofA4, ofA6, packD, List.take_left, List.length_append, List.length_cons, List.length_nil, List.length_set]
    · rcases pRes_bad b with ⟨⟨i, n', v, sh⟩, hy⟩ | hRb
      · obtain ⟨q', g', hg', hq'⟩ := now_R hy
        obtain ⟨hby, hE, hu, hv⟩ := pRes_read hy
        have h11 : ∀ A, Run Try.prog codecH 11 [.sl .sh 1 (strBytes b)] A = some (.ret (.tup [zeroFD, .int .i64 q', .int .i64 g']), A) := fun A => by rw [s11 A .sh rfl b (by omega), hq']; rfl
        have h15 : ∀ A, Run Try.prog codecH 15 [.sl .sh 1 (strBytes b)] A = some (.ret (.tup [resD i n' .sh v .sh sh, .int .i64 0, .int .i64 0]), A) := fun A => by rw [s15 A .sh rfl b (by omega), hy]; rfl
        have h18 : ∀ A, Run Try.prog codecH 18 [resD i n' .sh v .sh sh] A = some (.ret (.tup [.sl .sh 1 (strBytes b), .int .i64 0]), A) := fun A => by
          rw [s18 A i n' .sh .sh v sh hE hu hv, ← hby]
        have lY : ∀ s0 T, loadO true 4 (.ref (A.length + 1) 0) (A ++ (s0 :: .cells (resC i n' .sh v .sh sh) :: T)) = some (resD i n' .sh v .sh sh) := fun s0 T => by rw [ld1]; rfl
        have hne : b ≠ [] := by rintro rfl; cases hy
        have ha := fun s0 s1 => app_all A s0 s1 b hne (by omega)
        have ho1 := fun s0 s1 => app_one A s0 s1 b m (by omega)
        clear hby
        by_cases hc0 : cut < 0
        · rw [r8]
          unfold f8
          (repeat (first | (first | with_reducible refine qdn ?_ | with_reducible refine qdp ?_ | with_reducible refine qdq ?_ | with_reducible refine qdt ?_ | with_reducible refine qdo ?_ | with_reducible refine qc0 ?_ | with_reducible refine qdg ?_ | with_reducible refine qbq ?_ | with_reducible refine qdw ?_ | with_reducible refine qdx ?_ | with_reducible refine qdr ?_ | with_reducible refine qds ?_ | with_reducible refine qdv ?_ | with_reducible refine qdu ?_ | with_reducible refine qdf ?_) | ((conv => lhs; arg 1; simp (disch := first | omega | assumption) only [qc7, qde, qb3, qbc, qap, qb4, qch, Sum.elim_inl, Sum.elim_inr, Option.map_some, Option.map_none, Option.bind_some, Option.bind_none, Option.bind_eq_bind, qd0, qdz, qcy, qcq, qcs, qct, qcu, qcv, qcw, qcx, qcr, shl8, or8, shr8, qbw, qbr, qbo, qcm, qbn, qb6, qco, qcn, qbp, qa6, qaz, qau, qaj, qdm, qdk, qdj, qdl, qbt, qbu, qbv, qb5, qci, qcj, qck, qcl, qd3, qd4, qd1, qd2, qaa, qbg, qba, qar, qak, qae, qaf, qaw, qb9, qbx, qbe, qbz, qbd, qcd, qbi, qcb, qc3, qce, qby, qbj, qa0, qcc, qbf, qay, qdh, qcf, qc5, qc6, qbh, qao, qb8, qa7, qa5, qaq, qah, qan, qa4, qa3, qat, qai, qad, qac, qab, qb2, qa2, qbm, qb1, qb0, qa8, List.take_length, List.map_nil, List.drop_zero, List.drop_succ_cons, Nat.zero_add, Nat.add_zero, qa9, qbb, qc4, qbl, qbk, qc8, qb7, qca, qax, qa1, qas, qc1, qbs, qdb, qcp, qal, qam, qag, qav, cond_true, cond_false, qcz, qc9, qc2, qdd, qdi, qcg, qdy, qdc, qda, ofA2, ofA3, ofA4, ofA6, packD, List.take_left, List.length_append, List.length_cons, List.length_nil, List.length_set, List.append_assoc, List.cons_append, List.nil_append, s14, un_not, Bool.not_true, extract0, extract1, extract2, Nat.add_assoc, Nat.reduceAdd, h11, h15, h11L, h15L, ha, ho1, qba, neq_same, h18, lY, zF0, stR1, zF3, zR4]); (first | with_reducible refine qdn ?_ | with_reducible refine qdp ?_ | with_reducible refine qdq ?_ | with_reducible refine qdt ?_ | with_reducible refine qdo ?_ | with_reducible refine qc0 ?_ | with_reducible refine qdg ?_ | with_reducible refine qbq ?_ | with_reducible refine qdw ?_ | with_reducible refine qdx ?_ | with_reducible refine qdr ?_ | with_reducible refine qds ?_ | with_reducible refine qdv ?_ | with_reducible refine qdu ?_ | with_reducible refine qdf ?_))))
          simp only [qc7, qde, qb3, qbc, qap, qb4, qch, Sum.elim_inl, Sum.elim_inr, Option.map_some, Option.map_none, Option.bind_some, Option.bind_none, Option.bind_eq_bind, qd0, qdz, qcy, qcq, qcs, qct, qcu, qcv, qcw, qcx, qcr, shl8, or8, shr8, qbw, qbr, qbo, qcm, qbn, qb6, qco, qcn, qbp, qa6, qaz, qau, qaj, qdm, qdk, qdj, qdl, qbt, qbu, qbv, qb5, qci, qcj, qck, qcl, qd3, qd4, qd1, qd2, qaa, qbg, qba, qar, qak, qae, qaf, qaw, qb9, qbx, qbe, qbz, qbd, qcd, qbi, qcb, qc3, qce, qby, qbj, qa0, qcc, qbf, qay, qdh, qcf, qc5, qc6, qbh, qao, qb8, qa7, qa5, qaq, qah, qan, qa4, qa3, qat, qai, qad, qac, qab, qb2, qa2, qbm, qb1, qb0, qa8, List.take_length, List.map_nil, List.drop_zero, List.drop_succ_cons, Nat.zero_add, Nat.add_zero, qa9, qbb, qc4, qbl, qbk, qc8, qb7, qca, qax, qa1, qas, qc1, qbs, qdb, qcp, qal, qam, qag, qav, cond_true, cond_false, qcz, qc9, qc2, qdd, qdi, qcg, qdy, qdc, qda, ofA2, ofA3, ofA4, ofA6, packD, List.take_left, List.length_append, List.length_cons, List.length_nil, List.length_set]
        · by_cases hc1 : (b.length : Int) ≤ cut
          · rw [r8]
            unfold f8
            (repeat (first | (first | with_reducible refine qdn ?_ | with_reducible refine qdp ?_ | with_reducible refine qdq ?_ | with_reducible refine qdt ?_ | with_reducible refine qdo ?_ | with_reducible refine qc0 ?_ | with_reducible refine qdg ?_ | with_reducible refine qbq ?_ | with_reducible refine qdw ?_ | with_reducible refine qdx ?_ | with_reducible refine qdr ?_ | with_reducible refine qds ?_ | with_reducible refine qdv ?_ | with_reducible refine qdu ?_ | with_reducible refine qdf ?_) | ((conv => lhs; arg 1; simp (disch := first | omega | assumption) only [qc7, qde, qb3, qbc, qap, qb4, qch, Sum.elim_inl, Sum.elim_inr, Option.map_some, Option.map_none, Option.bind_some, Option.bind_none, Option.bind_eq_bind, qd0, qdz, qcy, qcq, qcs, qct, qcu, qcv, qcw, qcx, qcr, shl8, or8, shr8, qbw, qbr, qbo, qcm, qbn, qb6, qco, qcn, qbp, qa6, qaz, qau, qaj, qdm, qdk, qdj, qdl, qbt, qbu, qbv, qb5, qci, qcj, qck, qcl, qd3, qd4, qd1, qd2, qaa, qbg, qba, qar, qak, qae, qaf, qaw, qb9, qbx, qbe, qbz, qbd, qcd, qbi, qcb, qc3, qce, qby, qbj, qa0, qcc, qbf, qay, qdh, qcf, qc5, qc6, qbh, qao, qb8, qa7, qa5, qaq, qah, qan, qa4, qa3, qat, qai, qad, qac, qab, qb2, qa2, qbm, qb1, qb0, qa8, List.take_length, List.map_nil, List.drop_zero, List.drop_succ_cons, Nat.zero_add, Nat.add_zero, qa9, qbb, qc4, qbl, qbk, qc8, qb7, qca, qax, qa1, qas, qc1, qbs, qdb, qcp, qal, qam, qag, qav, cond_true, cond_false, qcz, qc9, qc2, qdd, qdi, qcg, qdy, qdc, qda, ofA2, ofA3, ofA4, ofA6, packD, List.take_left, List.length_append, List.length_cons, List.length_nil, List.length_set, List.append_assoc, List.cons_append, List.nil_append, s14, un_not, Bool.not_true, extract0, extract1, extract2, Nat.add_assoc, Nat.reduceAdd, h11, h15, h11L, h15L, ha, ho1, qba, neq_same, h18, lY, zF0, stR1, zF3, zR4]); (first | with_reducible refine qdn ?_ | with_reducible refine qdp ?_ | with_reducible refine qdq ?_ | with_reducible refine qdt ?_ | with_reducible refine qdo ?_ | with_reducible refine qc0 ?_ | with_reducible refine qdg ?_ | with_reducible refine qbq ?_ | with_reducible refine qdw ?_ | with_reducible refine qdx ?_ | with_reducible refine qdr ?_ | with_reducible refine qds ?_ | with_reducible refine qdv ?_ | with_reducible refine qdu ?_ | with_reducible refine qdf ?_))))
            simp only [qc7, qde, qb3, qbc, qap, qb4, qch, Sum.elim_inl, Sum.elim_inr, Option.map_some, Option.map_none, Option.bind_some, Option.bind_none, Option.bind_eq_bind, qd0, qdz, qcy, qcq, qcs, qct, qcu, qcv, qcw, qcx, qcr, shl8, or8, shr8, qbw, qbr, qbo, qcm, qbn, qb6, qco, qcn, qbp, qa6, qaz, qau, qaj, qdm, qdk, qdj, qdl, qbt, qbu, qbv, qb5, qci, qcj, qck, qcl, qd3, qd4, qd1, qd2, qaa, qbg, qba, qar, qak, qae, qaf, qaw, qb9, qbx, qbe, qbz, qbd, qcd, qbi, qcb, qc3, qce, qby, qbj, qa0, qcc, qbf, qay, qdh, qcf, qc5, qc6, qbh, qao, qb8, qa7, qa5, qaq, qah, qan, qa4, qa3, qat, qai, qad, qac, qab, qb2, qa2, qbm, qb1, qb0, qa8, List.take_length, List.map_nil, List.drop_zero, List.drop_succ_cons, Nat.zero_add, Nat.add_zero, qa9, qbb, qc4, qbl, qbk, qc8, qb7, qca, qax, qa1, qas, qc1, qbs, qdb, qcp, qal, qam, qag, qav, cond_true, cond_false, qcz, qc9, qc2, qdd, qdi, qcg, qdy, qdc, qda, ofA2, ofA3, ofA4, ofA6, packD, List.take_left, List.length_append, List.length_cons, List.length_nil, List.length_set]
          · obtain ⟨n, rfl⟩ : ∃ n : Nat, cut = n := ⟨cut.toNat, by omega⟩
            have h2 := before hbad n (by omega)
            obtain ⟨⟨p2, e2, he2, hp2⟩, ⟨q2, g2, hg2, hq2⟩⟩ := h2
            have hcut := fun o => slice_cut b n (by omega) o
            have h11C : ∀ A, Run Try.prog codecH 11 [.sl .sh 1 (strBytes (b.take n))] A = some (.ret (.tup [zeroFD, .int .i64 p2, .int .i64 e2]), A) := fun A => by rw [s11 A .sh rfl _ (by rw [List.length_take]; omega), hp2]; rfl
            have h15C : ∀ A, Run Try.prog codecH 15 [.sl .sh 1 (strBytes (b.take n))] A = some (.ret (.tup [zeroRD, .int .i64 q2, .int .i64 g2]), A) := fun A => by rw [s15 A .sh rfl _ (by rw [List.length_take]; omega), hq2]; rfl
            rw [r8]
            unfold f8
            (repeat (first | (first | with_reducible refine qdn ?_ | with_reducible refine qdp ?_ | with_reducible refine qdq ?_ | with_reducible refine qdt ?_ | with_reducible refine qdo ?_ | with_reducible refine qc0 ?_ | with_reducible refine qdg ?_ | with_reducible refine qbq ?_ | with_reducible refine qdw ?_ | with_reducible refine qdx ?_ | with_reducible refine qdr ?_ | with_reducible refine qds ?_ | with_reducible refine qdv ?_ | with_reducible refine qdu ?_ | with_reducible refine qdf ?_) | ((conv => lhs; arg 1; simp (disch := first | omega | assumption) only [qc7, qde, qb3, qbc, qap, qb4, qch, Sum.elim_inl, Sum.elim_inr, Option.map_some, Option.map_none, Option.bind_some, Option.bind_none, Option.bind_eq_bind, qd0, qdz, qcy, qcq, qcs, qct, qcu, qcv, qcw, qcx, qcr, shl8, or8, shr8, qbw, qbr, qbo, qcm, qbn, qb6, qco, qcn, qbp, qa6, qaz, qau, qaj, qdm, qdk, qdj, qdl, qbt, qbu, qbv, qb5, qci, qcj, qck, qcl, qd3, qd4, qd1, qd2, qaa, qbg, qba, qar, qak, qae, qaf, qaw, qb9, qbx, qbe, qbz, qbd, qcd, qbi, qcb, qc3, qce, qby, qbj, qa0, qcc, qbf, qay, qdh, qcf, qc5, qc6, qbh, qao, qb8, qa7, qa5, qaq, qah, qan, qa4, qa3, qat, qai, qad, qac, qab, qb2, qa2, qbm, qb1, qb0, qa8, List.take_length, List.map_nil, List.drop_zero, List.drop_succ_cons, Nat.zero_add, Nat.add_zero, qa9, qbb, qc4, qbl, qbk, qc8, qb7, qca, qax, qa1, qas, qc1, qbs, qdb, qcp, qal, qam, qag, qav, cond_true, cond_false, qcz, qc9, qc2, qdd, qdi, qcg, qdy, qdc, qda, ofA2, ofA3, ofA4, ofA6, packD, List.take_left, List.length_append, List.length_cons, List.length_nil, List.length_set, List.append_assoc, List.cons_append, List.nil_append, s14, un_not, Bool.not_true, extract0, extract1, extract2, Nat.add_assoc, Nat.reduceAdd, h11, h15, h11L, h15L, ha, ho1, qba, neq_same, h18, lY, zF0, stR1, zF3, zR4, zF5, zR6, hcut, h11C, h15C]); (first | with_reducible refine qdn ?_ | with_reducible refine qdp ?_ | with_reducible refine qdq ?_ | with_reducible refine qdt ?_ | with_reducible refine qdo ?_ | with_reducible refine qc0 ?_ | with_reducible refine qdg ?_ | with_reducible refine qbq ?_ | with_reducible refine qdw ?_ | with_reducible refine qdx ?_ | with_reducible refine qdr ?_ | with_reducible refine qds ?_ | with_reducible refine qdv ?_ | with_reducible refine qdu ?_ | with_reducible refine qdf ?_))))
            simp only [qc7, qde, qb3, qbc, qap, qb4, qch, Sum.elim_inl, Sum.elim_inr, Option.map_some, Option.map_none, Option.bind_some, Option.bind_none, Option.bind_eq_bind, qd0, qdz, qcy, qcq, qcs, qct, qcu, qcv, qcw, qcx, qcr, shl8, or8, shr8, qbw, qbr, qbo, qcm, qbn, qb6, qco, qcn, qbp, qa6, qaz, qau, qaj, qdm, qdk, qdj, qdl, qbt, qbu, qbv, qb5, qci, qcj, qck, qcl, qd3, qd4, qd1, qd2, qaa, qbg, qba, qar, qak, qae, qaf, qaw, qb9, qbx, qbe, qbz, qbd, qcd, qbi, qcb, qc3, qce, qby, qbj, qa0, qcc, qbf, qay, qdh, qcf, qc5, qc6, qbh, qao, qb8, qa7, qa5, qaq, qah, qan, qa4, qa3, qat, qai, qad, qac, qab, qb2, qa2, qbm, qb1, qb0, qa8, List.take_length, List.map_nil, List.drop_zero, List.drop_succ_cons, Nat.zero_add, Nat.add_zero, qa9, qbb, qc4, qbl, qbk, qc8, qb7, qca, qax, qa1, qas, qc1, qbs, qdb, qcp, qal, qam, qag, qav, cond_true, cond_false, qcz, qc9, qc2, qdd, qdi, qcg, qdy, qdc, qda, ofA2, ofA3, ofA4, ofA6, packD, List.take_left, List.length_append, List.length_cons, List.length_nil, List.length_set]
      · exact (hbad ⟨hFb, hRb⟩).elim
end Go.Vm.Codec
