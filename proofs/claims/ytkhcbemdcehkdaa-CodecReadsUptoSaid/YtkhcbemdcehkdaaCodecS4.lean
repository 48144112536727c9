/- CodecS1, CodecS2, CodecS3, CodecS4 in one text. -/
import Derived.Test.YtkhcbemdcehkdaaVmSimp
import Derived.Test.YtkhcbemdcehkdaaCodecF1
set_option linter.all false
/- What the bytes' readers and writers of the reference come to. -/
namespace Go.Vm.Codec
open Go.Proofs
set_option linter.unusedVariables false
set_option linter.unusedSimpArgs false
set_option maxRecDepth 10000

theorem s32_loop (call : FuncId → List D → St → ORes) (dcall : D → List D → Option D → St → Option (Option D × St)) (A : St) (s : List UInt8) (at_ n : Nat) (h : at_ + n ≤ s.length) (hn : n ≤ 8) (hl : s.length ≤ 9223372036854775807) :
    ∀ (m i : Nat) (o : Own), i + m = n →
    iterK (f32_s0 call dcall A) (Env.mk [.sl o 1 (strBytes s), .int .i64 at_, .int .i64 n, D.any, D.any, D.any, D.any, (D.int IntKind.u64 (num ((s.drop at_).take i))), (D.int IntKind.i64 i), D.any, D.any, D.any, D.any, D.any, D.any, D.any, D.any, D.any, D.any, D.any, D.any, D.any, D.any, D.any, D.any] []) A =
      some (.ret (.int .u64 (num ((s.drop at_).take n))), A) := by
  intro m
  induction m with
  | zero =>
    intro i o hi
    have : i = n := by omega
    subst this
    rw [qd6]
    conv => lhs; arg 1; unfold f32_s0; simp (disch := omega) only [qc7, qdg, qb1, qbc, qap, qb2, qce, Sum.elim_inl, Sum.elim_inr, Option.map_some, Option.map_none, Option.bind_some, Option.bind_none, Option.bind_eq_bind, qd0, qdz, qcz, qcr, qct, qcu, qcv, qcw, qcx, qcy, qcs, shl8, or8, shr8, qbu, qbs, qbp, qcn, qbo, qb3, qcp, qco, qbq, qa6, qaz, qat, qaj, qdq, qdo, qdn, qdp, qcf, qcg, qch, qci, qcj, qck, qcl, qcm, qd3, qd4, qd1, qd2, qaa, qbg, qbh, qau, qak, qae, qaf, qaw, qb6, qbv, qbe, qbx, qbd, qca, qbj, qb8, qc5, qcb, qbw, qbk, qa0, qb9, qbf, qay, qdl, qcc, qc9, qc3, qbi, qao, qb5, qa7, qa5, qaq, qah, qan, qa4, qa3, qas, qai, qad, qac, qab, qb0, qa2, qbn, qbz, qby, qa8, List.take_length, List.map_nil, List.drop_zero, List.drop_succ_cons, Nat.zero_add, Nat.add_zero, qba, qbb, qc6, qbm, qbl, qc8, qb4, qb7, qax, qa1, qar, qda, qbt, qdd, qcq, qal, qam, qag, qav, cond_true, cond_false, qc0, qdb, qc4, qdf, qdm, qcd, qdy, qde, qdc, ofA2, ofA3, ofA4, ofA6, packD, List.take_left, List.length_append, List.length_cons, List.length_nil, List.length_set]
    simp only [qc7, qdg, qb1, qbc, qap, qb2, qce, Sum.elim_inl, Sum.elim_inr, Option.map_some, Option.map_none, Option.bind_some, Option.bind_none, Option.bind_eq_bind, qd0, qdz, qcz, qcr, qct, qcu, qcv, qcw, qcx, qcy, qcs, shl8, or8, shr8, qbu, qbs, qbp, qcn, qbo, qb3, qcp, qco, qbq, qa6, qaz, qat, qaj, qdq, qdo, qdn, qdp, qcf, qcg, qch, qci, qcj, qck, qcl, qcm, qd3, qd4, qd1, qd2, qaa, qbg, qbh, qau, qak, qae, qaf, qaw, qb6, qbv, qbe, qbx, qbd, qca, qbj, qb8, qc5, qcb, qbw, qbk, qa0, qb9, qbf, qay, qdl, qcc, qc9, qc3, qbi, qao, qb5, qa7, qa5, qaq, qah, qan, qa4, qa3, qas, qai, qad, qac, qab, qb0, qa2, qbn, qbz, qby, qa8, List.take_length, List.map_nil, List.drop_zero, List.drop_succ_cons, Nat.zero_add, Nat.add_zero, qba, qbb, qc6, qbm, qbl, qc8, qb4, qb7, qax, qa1, qar, qda, qbt, qdd, qcq, qal, qam, qag, qav, cond_true, cond_false, qc0, qdb, qc4, qdf, qdm, qcd, qdy, qde, qdc, ofA2, ofA3, ofA4, ofA6, packD, List.take_left, List.length_append, List.length_cons, List.length_nil, List.length_set]
  | succ m ih =>
    intro i o hi
    have hx : num ((s.drop at_).take i) < 256 ^ 7 := by
      refine Nat.lt_of_lt_of_le (num_lt _) (Nat.pow_le_pow_right (by omega) ?_)
      simp; omega
    have hb : ∀ (h : ((at_ : Int) + i).toNat < s.length), s[((at_ : Int) + i).toNat].toNat < 256 := fun h => UInt8.toNat_lt _
    have hnum : ∀ (h : ((at_ : Int) + i).toNat < s.length), num ((s.drop at_).take i) * 256 + s[((at_ : Int) + i).toNat].toNat = num ((s.drop at_).take (i + 1)) := by
      intro h
      have e : ((at_ : Int) + i).toNat = at_ + i := by omega
      rw [List.take_add_one, List.getElem?_drop, List.getElem?_eq_getElem (by omega)]
      simp only [Option.toList_some, num_append1, e]
    rw [qd6]
    conv => lhs; arg 1; unfold f32_s0; simp (disch := first | omega | assumption | (exact hb _)) only [qc7, qdg, qb1, qbc, qap, qb2, qce, Sum.elim_inl, Sum.elim_inr, Option.map_some, Option.map_none, Option.bind_some, Option.bind_none, Option.bind_eq_bind, qd0, qdz, qcz, qcr, qct, qcu, qcv, qcw, qcx, qcy, qcs, shl8, or8, shr8, qbu, qbs, qbp, qcn, qbo, qb3, qcp, qco, qbq, qa6, qaz, qat, qaj, qdq, qdo, qdn, qdp, qcf, qcg, qch, qci, qcj, qck, qcl, qcm, qd3, qd4, qd1, qd2, qaa, qbg, qbh, qau, qak, qae, qaf, qaw, qb6, qbv, qbe, qbx, qbd, qca, qbj, qb8, qc5, qcb, qbw, qbk, qa0, qb9, qbf, qay, qdl, qcc, qc9, qc3, qbi, qao, qb5, qa7, qa5, qaq, qah, qan, qa4, qa3, qas, qai, qad, qac, qab, qb0, qa2, qbn, qbz, qby, qa8, List.take_length, List.map_nil, List.drop_zero, List.drop_succ_cons, Nat.zero_add, Nat.add_zero, qba, qbb, qc6, qbm, qbl, qc8, qb4, qb7, qax, qa1, qar, qda, qbt, qdd, qcq, qal, qam, qag, qav, cond_true, cond_false, qc0, qdb, qc4, qdf, qdm, qcd, qdy, qde, qdc, ofA2, ofA3, ofA4, ofA6, packD, List.take_left, List.length_append, List.length_cons, List.length_nil, List.length_set]
    have hlt : ((at_ : Int) + i).toNat < s.length := by omega
    rw [hnum hlt]
    simp only [qc7, qdg, qb1, qbc, qap, qb2, qce, Sum.elim_inl, Sum.elim_inr, Option.map_some, Option.map_none, Option.bind_some, Option.bind_none, Option.bind_eq_bind, qd0, qdz, qcz, qcr, qct, qcu, qcv, qcw, qcx, qcy, qcs, shl8, or8, shr8, qbu, qbs, qbp, qcn, qbo, qb3, qcp, qco, qbq, qa6, qaz, qat, qaj, qdq, qdo, qdn, qdp, qcf, qcg, qch, qci, qcj, qck, qcl, qcm, qd3, qd4, qd1, qd2, qaa, qbg, qbh, qau, qak, qae, qaf, qaw, qb6, qbv, qbe, qbx, qbd, qca, qbj, qb8, qc5, qcb, qbw, qbk, qa0, qb9, qbf, qay, qdl, qcc, qc9, qc3, qbi, qao, qb5, qa7, qa5, qaq, qah, qan, qa4, qa3, qas, qai, qad, qac, qab, qb0, qa2, qbn, qbz, qby, qa8, List.take_length, List.map_nil, List.drop_zero, List.drop_succ_cons, Nat.zero_add, Nat.add_zero, qba, qbb, qc6, qbm, qbl, qc8, qb4, qb7, qax, qa1, qar, qda, qbt, qdd, qcq, qal, qam, qag, qav, cond_true, cond_false, qc0, qdb, qc4, qdf, qdm, qcd, qdy, qde, qdc, ofA2, ofA3, ofA4, ofA6, packD, List.take_left, List.length_append, List.length_cons, List.length_nil, List.length_set]
    exact ih (i + 1) _ (by omega)
/-- get of the reference -/
theorem s32 (A : St) (s : List UInt8) (o : Own) (at_ n : Nat) (h : at_ + n ≤ s.length) (hn : n ≤ 8) (hl : s.length ≤ 9223372036854775807) :
    Run Try.prog codecH 32 [.sl o 1 (strBytes s), .int .i64 at_, .int .i64 n] A = some (.ret (.int .u64 (num ((s.drop at_).take n))), A) := by
  rw [r32]
  unfold f32
  exact s32_loop _ _ A s at_ n h hn hl n 0 o (by omega)
theorem s24_loop (call : FuncId → List D → St → ORes) (dcall : D → List D → Option D → St → Option (Option D × St)) (A : St) (x c : Nat) :
    ∀ (m : Nat) (z : Int) (l : List UInt8) (B : St), z = (m : Int) - 1 → m ≤ 8 → B[c]? = some (.tok l.length) → l.length + m ≤ 140737488355328 →
    iterK (f24_s0 call dcall A) (Env.mk [.sl (.own c 0) 1 (strBytes l), .int .u64 x, D.any, D.any, D.any, D.any, D.any, .int .i64 z, D.any, D.any, D.any, D.any, D.any, D.any, D.any, D.any, D.any, D.any, D.any, D.any, D.any, D.any, D.any, D.any] []) B =
      leaveD .own A (.ret (.sl (.own c 0) 1 (strBytes (l ++ be m x)))) (B.set c (.tok (l.length + m))) := by
  intro m
  induction m with
  | zero =>
    intro z l B hz hm hB hl
    rw [qd6]
    conv => lhs; arg 1; unfold f24_s0; simp (disch := omega) only [qc7, qdg, qb1, qbc, qap, qb2, qce, Sum.elim_inl, Sum.elim_inr, Option.map_some, Option.map_none, Option.bind_some, Option.bind_none, Option.bind_eq_bind, qd0, qdz, qcz, qcr, qct, qcu, qcv, qcw, qcx, qcy, qcs, shl8, or8, shr8, qbu, qbs, qbp, qcn, qbo, qb3, qcp, qco, qbq, qa6, qaz, qat, qaj, qdq, qdo, qdn, qdp, qcf, qcg, qch, qci, qcj, qck, qcl, qcm, qd3, qd4, qd1, qd2, qaa, qbg, qbh, qau, qak, qae, qaf, qaw, qb6, qbv, qbe, qbx, qbd, qca, qbj, qb8, qc5, qcb, qbw, qbk, qa0, qb9, qbf, qay, qdl, qcc, qc9, qc3, qbi, qao, qb5, qa7, qa5, qaq, qah, qan, qa4, qa3, qas, qai, qad, qac, qab, qb0, qa2, qbn, qbz, qby, qa8, List.take_length, List.map_nil, List.drop_zero, List.drop_succ_cons, Nat.zero_add, Nat.add_zero, qba, qbb, qc6, qbm, qbl, qc8, qb4, qb7, qax, qa1, qar, qda, qbt, qdd, qcq, qal, qam, qag, qav, cond_true, cond_false, qc0, qdb, qc4, qdf, qdm, qcd, qdy, qde, qdc, ofA2, ofA3, ofA4, ofA6, packD, List.take_left, List.length_append, List.length_cons, List.length_nil, List.length_set]
    have : B.set c (.tok (l.length + 0)) = B := by
      apply List.ext_getElem?
      intro i
      rw [List.getElem?_set]
      split
      · rename_i h; subst h
        split
        · exact hB.symm
        · rename_i h; rw [List.getElem?_eq_none (by omega)]
      · rfl
    rw [this]
    simp only [be, List.append_nil]
    cases leaveD .own A (.ret (.sl (.own c 0) 1 (strBytes l))) B <;> rfl
  | succ m ih =>
    intro z l B hz hm hB hl
    have hz' : z = (m : Int) := by omega
    subst hz'
    rw [qd6]
    conv => lhs; arg 1; unfold f24_s0; simp (disch := first | omega | assumption) only [qc7, qdg, qb1, qbc, qap, qb2, qce, Sum.elim_inl, Sum.elim_inr, Option.map_some, Option.map_none, Option.bind_some, Option.bind_none, Option.bind_eq_bind, qd0, qdz, qcz, qcr, qct, qcu, qcv, qcw, qcx, qcy, qcs, shl8, or8, shr8, qbu, qbs, qbp, qcn, qbo, qb3, qcp, qco, qbq, qa6, qaz, qat, qaj, qdq, qdo, qdn, qdp, qcf, qcg, qch, qci, qcj, qck, qcl, qcm, qd3, qd4, qd1, qd2, qaa, qbg, qbh, qau, qak, qae, qaf, qaw, qb6, qbv, qbe, qbx, qbd, qca, qbj, qb8, qc5, qcb, qbw, qbk, qa0, qb9, qbf, qay, qdl, qcc, qc9, qc3, qbi, qao, qb5, qa7, qa5, qaq, qah, qan, qa4, qa3, qas, qai, qad, qac, qab, qb0, qa2, qbn, qbz, qby, qa8, List.take_length, List.map_nil, List.drop_zero, List.drop_succ_cons, Nat.zero_add, Nat.add_zero, qba, qbb, qc6, qbm, qbl, qc8, qb4, qb7, qax, qa1, qar, qda, qbt, qdd, qcq, qal, qam, qag, qav, cond_true, cond_false, qc0, qdb, qc4, qdf, qdm, qcd, qdy, qde, qdc, ofA2, ofA3, ofA4, ofA6, packD, List.take_left, List.length_append, List.length_cons, List.length_nil, List.length_set]
    simp only [qc7, qdg, qb1, qbc, qap, qb2, qce, Sum.elim_inl, Sum.elim_inr, Option.map_some, Option.map_none, Option.bind_some, Option.bind_none, Option.bind_eq_bind, qd0, qdz, qcz, qcr, qct, qcu, qcv, qcw, qcx, qcy, qcs, shl8, or8, shr8, qbu, qbs, qbp, qcn, qbo, qb3, qcp, qco, qbq, qa6, qaz, qat, qaj, qdq, qdo, qdn, qdp, qcf, qcg, qch, qci, qcj, qck, qcl, qcm, qd3, qd4, qd1, qd2, qaa, qbg, qbh, qau, qak, qae, qaf, qaw, qb6, qbv, qbe, qbx, qbd, qca, qbj, qb8, qc5, qcb, qbw, qbk, qa0, qb9, qbf, qay, qdl, qcc, qc9, qc3, qbi, qao, qb5, qa7, qa5, qaq, qah, qan, qa4, qa3, qas, qai, qad, qac, qab, qb0, qa2, qbn, qbz, qby, qa8, List.take_length, List.map_nil, List.drop_zero, List.drop_succ_cons, Nat.zero_add, Nat.add_zero, qba, qbb, qc6, qbm, qbl, qc8, qb4, qb7, qax, qa1, qar, qda, qbt, qdd, qcq, qal, qam, qag, qav, cond_true, cond_false, qc0, qdb, qc4, qdf, qdm, qcd, qdy, qde, qdc, ofA2, ofA3, ofA4, ofA6, packD, List.take_left, List.length_append, List.length_cons, List.length_nil, List.length_set]
    have hc : c < B.length := by
      apply Decidable.byContradiction
      intro h
      rw [List.getElem?_eq_none (by omega)] at hB
      cases hB
    rw [ih _ _ _ (by rfl) (by omega) (by rw [List.getElem?_set_self hc]; simp) (by simp; omega)]
    simp only [be, List.append_assoc, List.set_set, List.length_append, List.length_cons, List.length_nil, List.cons_append, List.nil_append]
    rw [show l.length + (0 + 1) + m = l.length + (m + 1) by omega]
/-- put of the reference, where there is room -/
theorem s24 (A : St) (x n c : Nat) (l : List UInt8) (hn : n ≤ 8) (hc : c < A.length) (hA : A[c]? = some (.tok l.length)) (hl : l.length + n ≤ 140737488355328) :
    Run Try.prog codecH 24 [.sl (.own c 0) 1 (strBytes l), .int .u64 x, .int .i64 n] A = some (.ret (.sl (.own c 0) 1 (strBytes (l ++ be n x))), A.set c (.tok (l.length + n))) := by
  rw [r24]
  unfold f24
  simp (disch := omega) only [qc7, qdg, qb1, qbc, qap, qb2, qce, Sum.elim_inl, Sum.elim_inr, Option.map_some, Option.map_none, Option.bind_some, Option.bind_none, Option.bind_eq_bind, qd0, qdz, qcz, qcr, qct, qcu, qcv, qcw, qcx, qcy, qcs, shl8, or8, shr8, qbu, qbs, qbp, qcn, qbo, qb3, qcp, qco, qbq, qa6, qaz, qat, qaj, qdq, qdo, qdn, qdp, qcf, qcg, qch, qci, qcj, qck, qcl, qcm, qd3, qd4, qd1, qd2, qaa, qbg, qbh, qau, qak, qae, qaf, qaw, qb6, qbv, qbe, qbx, qbd, qca, qbj, qb8, qc5, qcb, qbw, qbk, qa0, qb9, qbf, qay, qdl, qcc, qc9, qc3, qbi, qao, qb5, qa7, qa5, qaq, qah, qan, qa4, qa3, qas, qai, qad, qac, qab, qb0, qa2, qbn, qbz, qby, qa8, List.take_length, List.map_nil, List.drop_zero, List.drop_succ_cons, Nat.zero_add, Nat.add_zero, qba, qbb, qc6, qbm, qbl, qc8, qb4, qb7, qax, qa1, qar, qda, qbt, qdd, qcq, qal, qam, qag, qav, cond_true, cond_false, qc0, qdb, qc4, qdf, qdm, qcd, qdy, qde, qdc, ofA2, ofA3, ofA4, ofA6, packD, List.take_left, List.length_append, List.length_cons, List.length_nil, List.length_set]
  rw [s24_loop _ _ A x c n _ l A rfl hn hA hl]
  simp (disch := omega) only [qc7, qdg, qb1, qbc, qap, qb2, qce, Sum.elim_inl, Sum.elim_inr, Option.map_some, Option.map_none, Option.bind_some, Option.bind_none, Option.bind_eq_bind, qd0, qdz, qcz, qcr, qct, qcu, qcv, qcw, qcx, qcy, qcs, shl8, or8, shr8, qbu, qbs, qbp, qcn, qbo, qb3, qcp, qco, qbq, qa6, qaz, qat, qaj, qdq, qdo, qdn, qdp, qcf, qcg, qch, qci, qcj, qck, qcl, qcm, qd3, qd4, qd1, qd2, qaa, qbg, qbh, qau, qak, qae, qaf, qaw, qb6, qbv, qbe, qbx, qbd, qca, qbj, qb8, qc5, qcb, qbw, qbk, qa0, qb9, qbf, qay, qdl, qcc, qc9, qc3, qbi, qao, qb5, qa7, qa5, qaq, qah, qan, qa4, qa3, qas, qai, qad, qac, qab, qb0, qa2, qbn, qbz, qby, qa8, List.take_length, List.map_nil, List.drop_zero, List.drop_succ_cons, Nat.zero_add, Nat.add_zero, qba, qbb, qc6, qbm, qbl, qc8, qb4, qb7, qax, qa1, qar, qda, qbt, qdd, qcq, qal, qam, qag, qav, cond_true, cond_false, qc0, qdb, qc4, qdf, qdm, qcd, qdy, qde, qdc, ofA2, ofA3, ofA4, ofA6, packD, List.take_left, List.length_append, List.length_cons, List.length_nil, List.length_set]
end Go.Vm.Codec

/- What the writer of the codec comes to. -/
namespace Go.Vm.Codec
open Go.Proofs
set_option linter.unusedVariables false
set_option linter.unusedSimpArgs false
set_option maxRecDepth 10000

theorem s23_in (call : FuncId → List D → St → ORes) (dcall : D → List D → Option D → St → Option (Option D × St)) (A B : St) (k c x : Nat) (hk : k < A.length) (hc : c < A.length) (hkc : k ≠ c) (hB : B.length = A.length) (hK : ∀ bs, Kept B (wr A k c bs))
    (n : Int) (l : List Nat) (i : Nat) (hi : i < 1000) :
    ∀ (m : Nat) (z : Int) (bs : List UInt8) (o : Own), z = (m : Int) - 1 → m ≤ 8 → bs.length + m ≤ 140737488355328 →
    ∃ o', iterK (f23_s0 call dcall B) (Env.mk [.ref k 0, .int .i64 n, D.any, D.any, D.any, D.any, D.any, .int .u64 x, .int .i64 z, .sl o 1 (nums l), .int .i64 l.length, .int .i64 i, D.any, D.any, D.any, D.any, D.any, D.any, D.any, D.any, D.any, D.any, D.any, D.any, D.any, D.any, D.any, D.any, D.any, D.any, D.any, D.any, D.any, D.any, D.any, D.any] []) (wr A k c bs) =
      some (.inl (Env.mk [.ref k 0, .int .i64 n, D.any, D.any, D.any, D.any, D.any, D.any, D.any, .sl o' 1 (nums l), .int .i64 l.length, .int .i64 ((i + 1 : Nat) : Int), D.any, D.any, D.any, D.any, D.any, D.any, D.any, D.any, D.any, D.any, D.any, D.any, D.any, D.any, D.any, D.any, D.any, D.any, D.any, D.any, D.any, D.any, D.any, D.any] [], wr A k c (bs ++ be m x))) := by
  intro m
  induction m with
  | zero =>
    intro z bs o hz hm hl
    refine ⟨o.shut A.length, ?_⟩
    rw [qd6]
    have hK' := iff_true_intro (hK bs)
    have hk' : k < B.length := by omega
    conv => lhs; arg 1; unfold f23_s0; simp (disch := omega) only [qc7, qdg, qb1, qbc, qap, qb2, qce, Sum.elim_inl, Sum.elim_inr, Option.map_some, Option.map_none, Option.bind_some, Option.bind_none, Option.bind_eq_bind, qd0, qdz, qcz, qcr, qct, qcu, qcv, qcw, qcx, qcy, qcs, shl8, or8, shr8, qbu, qbs, qbp, qcn, qbo, qb3, qcp, qco, qbq, qa6, qaz, qat, qaj, qdq, qdo, qdn, qdp, qcf, qcg, qch, qci, qcj, qck, qcl, qcm, qd3, qd4, qd1, qd2, qaa, qbg, qbh, qau, qak, qae, qaf, qaw, qb6, qbv, qbe, qbx, qbd, qca, qbj, qb8, qc5, qcb, qbw, qbk, qa0, qb9, qbf, qay, qdl, qcc, qc9, qc3, qbi, qao, qb5, qa7, qa5, qaq, qah, qan, qa4, qa3, qas, qai, qad, qac, qab, qb0, qa2, qbn, qbz, qby, qa8, List.take_length, List.map_nil, List.drop_zero, List.drop_succ_cons, Nat.zero_add, Nat.add_zero, qba, qbb, qc6, qbm, qbl, qc8, qb4, qb7, qax, qa1, qar, qda, qbt, qdd, qcq, qal, qam, qag, qav, cond_true, cond_false, qc0, qdb, qc4, qdf, qdm, qcd, qdy, qde, qdc, ofA2, ofA3, ofA4, ofA6, packD, List.take_left, List.length_append, List.length_cons, List.length_nil, List.length_set, hK', wr_take' _ _ _ _ _ hB, hB]
    simp only [be, List.append_nil, qc7, qdg, qb1, qbc, qap, qb2, qce, Sum.elim_inl, Sum.elim_inr, Option.map_some, Option.map_none, Option.bind_some, Option.bind_none, Option.bind_eq_bind, qd0, qdz, qcz, qcr, qct, qcu, qcv, qcw, qcx, qcy, qcs, shl8, or8, shr8, qbu, qbs, qbp, qcn, qbo, qb3, qcp, qco, qbq, qa6, qaz, qat, qaj, qdq, qdo, qdn, qdp, qcf, qcg, qch, qci, qcj, qck, qcl, qcm, qd3, qd4, qd1, qd2, qaa, qbg, qbh, qau, qak, qae, qaf, qaw, qb6, qbv, qbe, qbx, qbd, qca, qbj, qb8, qc5, qcb, qbw, qbk, qa0, qb9, qbf, qay, qdl, qcc, qc9, qc3, qbi, qao, qb5, qa7, qa5, qaq, qah, qan, qa4, qa3, qas, qai, qad, qac, qab, qb0, qa2, qbn, qbz, qby, qa8, List.take_length, List.map_nil, List.drop_zero, List.drop_succ_cons, Nat.zero_add, Nat.add_zero, qba, qbb, qc6, qbm, qbl, qc8, qb4, qb7, qax, qa1, qar, qda, qbt, qdd, qcq, qal, qam, qag, qav, cond_true, cond_false, qc0, qdb, qc4, qdf, qdm, qcd, qdy, qde, qdc, ofA2, ofA3, ofA4, ofA6, packD, List.take_left, List.length_append, List.length_cons, List.length_nil, List.length_set, wr_take]
    rfl
  | succ m ih =>
    intro z bs o hz hm hl
    have hz' : z = (m : Int) := by omega
    subst hz'
    have h1 := wr_k (c := c) (bs := bs) hk
    have h2 := wr_c (k := k) (bs := bs) hc hkc
    obtain ⟨o', ih⟩ := ih ((m : Int) - 1) (bs ++ [(x / 256 ^ m).toUInt8]) (o.shut A.length) rfl (by omega) (by simp; omega)
    refine ⟨o', ?_⟩
    rw [qd6]
    have h3 : ((wr A k c bs).set c (.tok (bs.length + 1)))[k]? = some (.cells [.sl (.own c 0) 1 (strBytes bs)]) := by
      rw [List.getElem?_set_ne (Ne.symm hkc)]; exact h1
    have h4 := wr_set A k c bs (bs ++ [(x / 256 ^ m).toUInt8]) hkc (bs.length + 1) (by simp)
    have h6 := storeO1 (off := 0) (d := .sl (.own c 0) 1 (strBytes (bs ++ [(x / 256 ^ m).toUInt8]))) h3 rfl (by simp)
    have h5 := iff_true_intro (Kept_wr2 hk hc hkc bs (bs ++ [(x / 256 ^ m).toUInt8]))
    conv => lhs; arg 1; unfold f23_s0; simp (disch := first | omega | assumption) only [qc7, qdg, qb1, qbc, qap, qb2, qce, Sum.elim_inl, Sum.elim_inr, Option.map_some, Option.map_none, Option.bind_some, Option.bind_none, Option.bind_eq_bind, qd0, qdz, qcz, qcr, qct, qcu, qcv, qcw, qcx, qcy, qcs, shl8, or8, shr8, qbu, qbs, qbp, qcn, qbo, qb3, qcp, qco, qbq, qa6, qaz, qat, qaj, qdq, qdo, qdn, qdp, qcf, qcg, qch, qci, qcj, qck, qcl, qcm, qd3, qd4, qd1, qd2, qaa, qbg, qbh, qau, qak, qae, qaf, qaw, qb6, qbv, qbe, qbx, qbd, qca, qbj, qb8, qc5, qcb, qbw, qbk, qa0, qb9, qbf, qay, qdl, qcc, qc9, qc3, qbi, qao, qb5, qa7, qa5, qaq, qah, qan, qa4, qa3, qas, qai, qad, qac, qab, qb0, qa2, qbn, qbz, qby, qa8, List.take_length, List.map_nil, List.drop_zero, List.drop_succ_cons, Nat.zero_add, Nat.add_zero, qba, qbb, qc6, qbm, qbl, qc8, qb4, qb7, qax, qa1, qar, qda, qbt, qdd, qcq, qal, qam, qag, qav, cond_true, cond_false, qc0, qdb, qc4, qdf, qdm, qcd, qdy, qde, qdc, ofA2, ofA3, ofA4, ofA6, packD, List.take_left, List.length_append, List.length_cons, List.length_nil, List.length_set, load_ref h1, h6, h4, h5, wr_take]
    simp only [qc7, qdg, qb1, qbc, qap, qb2, qce, Sum.elim_inl, Sum.elim_inr, Option.map_some, Option.map_none, Option.bind_some, Option.bind_none, Option.bind_eq_bind, qd0, qdz, qcz, qcr, qct, qcu, qcv, qcw, qcx, qcy, qcs, shl8, or8, shr8, qbu, qbs, qbp, qcn, qbo, qb3, qcp, qco, qbq, qa6, qaz, qat, qaj, qdq, qdo, qdn, qdp, qcf, qcg, qch, qci, qcj, qck, qcl, qcm, qd3, qd4, qd1, qd2, qaa, qbg, qbh, qau, qak, qae, qaf, qaw, qb6, qbv, qbe, qbx, qbd, qca, qbj, qb8, qc5, qcb, qbw, qbk, qa0, qb9, qbf, qay, qdl, qcc, qc9, qc3, qbi, qao, qb5, qa7, qa5, qaq, qah, qan, qa4, qa3, qas, qai, qad, qac, qab, qb0, qa2, qbn, qbz, qby, qa8, List.take_length, List.map_nil, List.drop_zero, List.drop_succ_cons, Nat.zero_add, Nat.add_zero, qba, qbb, qc6, qbm, qbl, qc8, qb4, qb7, qax, qa1, qar, qda, qbt, qdd, qcq, qal, qam, qag, qav, cond_true, cond_false, qc0, qdb, qc4, qdf, qdm, qcd, qdy, qde, qdc, ofA2, ofA3, ofA4, ofA6, packD, List.take_left, List.length_append, List.length_cons, List.length_nil, List.length_set]
    rw [ih]
    simp only [be, List.append_assoc, List.cons_append, List.nil_append]
theorem s23_out (call : FuncId → List D → St → ORes) (dcall : D → List D → Option D → St → Option (Option D × St)) (A : St) (k c : Nat) (hk : k < A.length) (hc : c < A.length) (hkc : k ≠ c)
    (n : Nat) (hn : n ≤ 8) (l : List Nat) (hl : l.length ≤ 100) :
    ∀ (m i : Nat) (bs : List UInt8) (o : Own), i + m = l.length → bs.length + n * m ≤ 140737488355328 →
    iterK (f23_s1 call dcall A) (Env.mk [.ref k 0, .int .i64 n, D.any, D.any, D.any, D.any, D.any, D.any, D.any, .sl o 1 (nums l), .int .i64 l.length, .int .i64 i, D.any, D.any, D.any, D.any, D.any, D.any, D.any, D.any, D.any, D.any, D.any, D.any, D.any, D.any, D.any, D.any, D.any, D.any, D.any, D.any, D.any, D.any, D.any, D.any] []) (wr A k c bs) =
      some (.ret (.tup []), wr A k c (bs ++ beL n (l.drop i))) := by
  intro m
  induction m with
  | zero =>
    intro i bs o hi hb
    have hi' : i = l.length := by omega
    subst hi'
    rw [qd6]
    have hK := iff_true_intro (Kept_wr (k := k) hc bs)
    conv => lhs; arg 1; unfold f23_s1; simp (disch := omega) only [qc7, qdg, qb1, qbc, qap, qb2, qce, Sum.elim_inl, Sum.elim_inr, Option.map_some, Option.map_none, Option.bind_some, Option.bind_none, Option.bind_eq_bind, qd0, qdz, qcz, qcr, qct, qcu, qcv, qcw, qcx, qcy, qcs, shl8, or8, shr8, qbu, qbs, qbp, qcn, qbo, qb3, qcp, qco, qbq, qa6, qaz, qat, qaj, qdq, qdo, qdn, qdp, qcf, qcg, qch, qci, qcj, qck, qcl, qcm, qd3, qd4, qd1, qd2, qaa, qbg, qbh, qau, qak, qae, qaf, qaw, qb6, qbv, qbe, qbx, qbd, qca, qbj, qb8, qc5, qcb, qbw, qbk, qa0, qb9, qbf, qay, qdl, qcc, qc9, qc3, qbi, qao, qb5, qa7, qa5, qaq, qah, qan, qa4, qa3, qas, qai, qad, qac, qab, qb0, qa2, qbn, qbz, qby, qa8, List.take_length, List.map_nil, List.drop_zero, List.drop_succ_cons, Nat.zero_add, Nat.add_zero, qba, qbb, qc6, qbm, qbl, qc8, qb4, qb7, qax, qa1, qar, qda, qbt, qdd, qcq, qal, qam, qag, qav, cond_true, cond_false, qc0, qdb, qc4, qdf, qdm, qcd, qdy, qde, qdc, ofA2, ofA3, ofA4, ofA6, packD, List.take_left, List.length_append, List.length_cons, List.length_nil, List.length_set, hK, wr_take]
    simp [beL]
  | succ m ih =>
    intro i bs o hi hb
    have hlt : i < l.length := by omega
    rw [Nat.mul_succ] at hb
    obtain ⟨o', hin⟩ := s23_in call dcall A (wr A k c bs) k c l[i] hk hc hkc (qba _ _ _ _) (fun bs' => Kept_wr2 hk hc hkc bs bs') n l i (by omega) n ((n : Int) - 1) bs o rfl hn (by omega)
    rw [qd6]
    conv => lhs; arg 1; unfold f23_s1; simp (disch := first | omega | assumption) only [qc7, qdg, qb1, qbc, qap, qb2, qce, Sum.elim_inl, Sum.elim_inr, Option.map_some, Option.map_none, Option.bind_some, Option.bind_none, Option.bind_eq_bind, qd0, qdz, qcz, qcr, qct, qcu, qcv, qcw, qcx, qcy, qcs, shl8, or8, shr8, qbu, qbs, qbp, qcn, qbo, qb3, qcp, qco, qbq, qa6, qaz, qat, qaj, qdq, qdo, qdn, qdp, qcf, qcg, qch, qci, qcj, qck, qcl, qcm, qd3, qd4, qd1, qd2, qaa, qbg, qbh, qau, qak, qae, qaf, qaw, qb6, qbv, qbe, qbx, qbd, qca, qbj, qb8, qc5, qcb, qbw, qbk, qa0, qb9, qbf, qay, qdl, qcc, qc9, qc3, qbi, qao, qb5, qa7, qa5, qaq, qah, qan, qa4, qa3, qas, qai, qad, qac, qab, qb0, qa2, qbn, qbz, qby, qa8, List.take_length, List.map_nil, List.drop_zero, List.drop_succ_cons, Nat.zero_add, Nat.add_zero, qba, qbb, qc6, qbm, qbl, qc8, qb4, qb7, qax, qa1, qar, qda, qbt, qdd, qcq, qal, qam, qag, qav, cond_true, cond_false, qc0, qdb, qc4, qdf, qdm, qcd, qdy, qde, qdc, ofA2, ofA3, ofA4, ofA6, packD, List.take_left, List.length_append, List.length_cons, List.length_nil, List.length_set, index_nums]
    rw [hin]
    simp only [qc7, qdg, qb1, qbc, qap, qb2, qce, Sum.elim_inl, Sum.elim_inr, Option.map_some, Option.map_none, Option.bind_some, Option.bind_none, Option.bind_eq_bind, qd0, qdz, qcz, qcr, qct, qcu, qcv, qcw, qcx, qcy, qcs, shl8, or8, shr8, qbu, qbs, qbp, qcn, qbo, qb3, qcp, qco, qbq, qa6, qaz, qat, qaj, qdq, qdo, qdn, qdp, qcf, qcg, qch, qci, qcj, qck, qcl, qcm, qd3, qd4, qd1, qd2, qaa, qbg, qbh, qau, qak, qae, qaf, qaw, qb6, qbv, qbe, qbx, qbd, qca, qbj, qb8, qc5, qcb, qbw, qbk, qa0, qb9, qbf, qay, qdl, qcc, qc9, qc3, qbi, qao, qb5, qa7, qa5, qaq, qah, qan, qa4, qa3, qas, qai, qad, qac, qab, qb0, qa2, qbn, qbz, qby, qa8, List.take_length, List.map_nil, List.drop_zero, List.drop_succ_cons, Nat.zero_add, Nat.add_zero, qba, qbb, qc6, qbm, qbl, qc8, qb4, qb7, qax, qa1, qar, qda, qbt, qdd, qcq, qal, qam, qag, qav, cond_true, cond_false, qc0, qdb, qc4, qdf, qdm, qcd, qdy, qde, qdc, ofA2, ofA3, ofA4, ofA6, packD, List.take_left, List.length_append, List.length_cons, List.length_nil, List.length_set]
    rw [ih (i + 1) _ _ (by omega) (by simp; omega)]
    rw [List.append_assoc]
    congr 4
    rw [List.drop_eq_getElem_cons hlt]
    simp only [beL, List.flatMap_cons]
/-- put of the codec's writer -/
theorem s23 (A : St) (k c : Nat) (hk : k < A.length) (hc : c < A.length) (hkc : k ≠ c) (n : Nat) (hn : n ≤ 8) (l : List Nat) (hl : l.length ≤ 100) (bs : List UInt8) (o : Own) (hb : bs.length + n * l.length ≤ 140737488355328) :
    Run Try.prog codecH 23 [.ref k 0, .int .i64 n, .sl o 1 (nums l)] (wr A k c bs) = some (.ret (.tup []), wr A k c (bs ++ beL n l)) := by
  rw [r23]
  unfold f23
  simp (disch := omega) only [qc7, qdg, qb1, qbc, qap, qb2, qce, Sum.elim_inl, Sum.elim_inr, Option.map_some, Option.map_none, Option.bind_some, Option.bind_none, Option.bind_eq_bind, qd0, qdz, qcz, qcr, qct, qcu, qcv, qcw, qcx, qcy, qcs, shl8, or8, shr8, qbu, qbs, qbp, qcn, qbo, qb3, qcp, qco, qbq, qa6, qaz, qat, qaj, qdq, qdo, qdn, qdp, qcf, qcg, qch, qci, qcj, qck, qcl, qcm, qd3, qd4, qd1, qd2, qaa, qbg, qbh, qau, qak, qae, qaf, qaw, qb6, qbv, qbe, qbx, qbd, qca, qbj, qb8, qc5, qcb, qbw, qbk, qa0, qb9, qbf, qay, qdl, qcc, qc9, qc3, qbi, qao, qb5, qa7, qa5, qaq, qah, qan, qa4, qa3, qas, qai, qad, qac, qab, qb0, qa2, qbn, qbz, qby, qa8, List.take_length, List.map_nil, List.drop_zero, List.drop_succ_cons, Nat.zero_add, Nat.add_zero, qba, qbb, qc6, qbm, qbl, qc8, qb4, qb7, qax, qa1, qar, qda, qbt, qdd, qcq, qal, qam, qag, qav, cond_true, cond_false, qc0, qdb, qc4, qdf, qdm, qcd, qdy, qde, qdc, ofA2, ofA3, ofA4, ofA6, packD, List.take_left, List.length_append, List.length_cons, List.length_nil, List.length_set]
  have h := s23_out (Run Try.prog codecH) (Dcall Try.prog codecH) (wr A k c bs) k c (by simpa [wr] using hk) (by simpa [wr] using hc) hkc n hn l hl l.length 0 bs o (by omega) hb
  have e : ∀ bs', wr (wr A k c bs) k c bs' = wr A k c bs' := fun bs' => by
    have := wr_set A k c bs bs' hkc _ rfl
    simpa [wr] using this
  rw [e, e] at h
  exact h
end Go.Vm.Codec

/- The bytes of a frame: what both writers come to. -/
namespace Go.Vm.Codec
open Go.Proofs
set_option linter.unusedVariables false
set_option linter.unusedSimpArgs false
set_option maxRecDepth 10000
set_option maxHeartbeats 1000000

def frameD (k f t s a : Nat) (o : Own) (es : Nat) (body : List UInt8) : D := .agg [.int .u8 k, .int .u32 f, .int .u32 t, .int .u64 s, .int .u64 a, .sl o es (strBytes body)]
def frameBytes (k f t s a : Nat) (body : List UInt8) : List UInt8 := [70, k.toUInt8] ++ beL 4 [f, t] ++ beL 8 [s, a] ++ beL 4 [body.length] ++ body
theorem beL_length (n : Nat) (l : List Nat) : (beL n l).length = n * l.length := by
  induction l with
  | nil => rfl
  | cons a l ih => simp only [beL, List.flatMap_cons, List.length_append, be_length, List.length_cons] at ih ⊢; rw [ih, Nat.mul_succ, Nat.add_comm]
theorem s9 (k f t s a : Nat) (hk : k < 256) (hf : f < 4294967296) (ht : t < 4294967296) (hs : s < 18446744073709551616) (ha : a < 18446744073709551616) (body : List UInt8) (o : Own) (es : Nat) (hes : esOk o es 1 (strBytes body) = true) (A : St) (hb : body.length ≤ 65536) :
    Run Try.prog codecH 9 [frameD k f t s a o es body] A = some (.ret (.tup [.sl .sh 1 (strBytes (frameBytes k f t s a body)), .int .i64 0]), A) := by
  rw [r9]
  unfold f9 frameD
  have h0 : (A ++ [Slot.cells [.int .u8 (k : Int), .int .u32 f, .int .u32 t, .int .u64 s, .int .u64 a, .sl o es (strBytes body)]])[A.length]? = some (.cells [.int .u8 k, .int .u32 f, .int .u32 t, .int .u64 s, .int .u64 a, .sl o es (strBytes body)]) := by simp
  simp (disch := first | omega | assumption | rfl) only [qc7, qdg, qb1, qbc, qap, qb2, qce, Sum.elim_inl, Sum.elim_inr, Option.map_some, Option.map_none, Option.bind_some, Option.bind_none, Option.bind_eq_bind, qd0, qdz, qcz, qcr, qct, qcu, qcv, qcw, qcx, qcy, qcs, shl8, or8, shr8, qbu, qbs, qbp, qcn, qbo, qb3, qcp, qco, qbq, qa6, qaz, qat, qaj, qdq, qdo, qdn, qdp, qcf, qcg, qch, qci, qcj, qck, qcl, qcm, qd3, qd4, qd1, qd2, qaa, qbg, qbh, qau, qak, qae, qaf, qaw, qb6, qbv, qbe, qbx, qbd, qca, qbj, qb8, qc5, qcb, qbw, qbk, qa0, qb9, qbf, qay, qdl, qcc, qc9, qc3, qbi, qao, qb5, qa7, qa5, qaq, qah, qan, qa4, qa3, qas, qai, qad, qac, qab, qb0, qa2, qbn, qbz, qby, qa8, List.take_length, List.map_nil, List.drop_zero, List.drop_succ_cons, Nat.zero_add, Nat.add_zero, qba, qbb, qc6, qbm, qbl, qc8, qb4, qb7, qax, qa1, qar, qda, qbt, qdd, qcq, qal, qam, qag, qav, cond_true, cond_false, qc0, qdb, qc4, qdf, qdm, qcd, qdy, qde, qdc, ofA2, ofA3, ofA4, ofA6, packD, List.take_left, List.length_append, List.length_cons, List.length_nil, List.length_set, load_ref h0]
  obtain ⟨B, hB⟩ : ∃ B, B = A ++ [Slot.cells [D.int IntKind.u8 (k : Int), D.int IntKind.u32 f, D.int IntKind.u32 t, D.int IntKind.u64 s, D.int IntKind.u64 a, D.sl o es (strBytes body)]] ++ [Slot.tok (1 + 1)] ++
      [Slot.cells [D.sl (Own.own (List.length A + 1) 0) 1 [D.int IntKind.u8 70, D.int IntKind.u8 (k : Int)]]] := ⟨_, rfl⟩
  rw [← hB]
  have hl : B.length = A.length + 3 := by rw [hB]; simp
  have hK : Kept A B := by rw [hB, List.append_assoc, List.append_assoc]; exact (qao A _).2 trivial
  have hT : B.take A.length = A := by rw [hB, List.append_assoc, List.append_assoc]; exact List.take_left
  have hk' : (k.toUInt8.toNat : Int) = k := by simp [Nat.mod_eq_of_lt hk]
  have e70 : [D.int IntKind.u8 70, D.int IntKind.u8 (k : Int)] = strBytes [70, k.toUInt8] := by simp [strBytes, hk', Nat.mod_eq_of_lt hk]
  have g0 : B[A.length]? = some (.cells [D.int IntKind.u8 (k : Int), D.int IntKind.u32 f, D.int IntKind.u32 t, D.int IntKind.u64 s, D.int IntKind.u64 a, D.sl o es (strBytes body)]) := by rw [hB]; simp
  have g1 : B[A.length + 1]? = some (.tok [70, k.toUInt8].length) := by rw [hB]; simp [List.getElem?_append]
  have g2 : B[A.length + 1 + 1]? = some (.cells [.sl (.own (A.length + 1) 0) 1 (strBytes [70, k.toUInt8])]) := by rw [hB, ← e70, List.append_assoc, List.append_assoc, get_app _ _ _ 2 (by omega)]; rfl
  have hw : B = wr B (A.length + 1 + 1) (A.length + 1) [70, k.toUInt8] := (wr_self g2 g1).symm
  have ld : ∀ bs g n off, loadO g n (.ref A.length off) (wr B (A.length + 1 + 1) (A.length + 1) bs) = ofCells g [D.int IntKind.u8 (k : Int), D.int IntKind.u32 f, D.int IntKind.u32 t, D.int IntKind.u64 s, D.int IntKind.u64 a, D.sl o es (strBytes body)] off n :=
    fun bs g n off => load_ref (by rw [wr_other (by omega) (by omega)]; exact g0)
  have lk : ∀ bs g n off, loadO g n (.ref (A.length + 1 + 1) off) (wr B (A.length + 1 + 1) (A.length + 1) bs) = ofCells g [.sl (.own (A.length + 1) 0) 1 (strBytes bs)] off n :=
    fun bs g n off => load_ref (wr_k (by omega))
  have put : ∀ (n : Nat) (l : List Nat) (bs : List UInt8), n ≤ 8 → l.length ≤ 100 → bs.length + n * l.length ≤ 140737488355328 → Run Try.prog codecH 23 [.ref (A.length + 1 + 1) 0, .int .i64 n, .sl .full 1 (nums l)] (wr B (A.length + 1 + 1) (A.length + 1) bs) =
      some (.ret (.tup []), wr B (A.length + 1 + 1) (A.length + 1) (bs ++ beL n l)) := fun n l bs hn hl' hb' => s23 B _ _ (by omega) (by omega) (by omega) n hn l hl' bs _ hb'
  have p1 := put 4 [f, t] [70, k.toUInt8] (by omega) (by simp) (by simp)
  have p2 := put 8 [s, a] ([70, k.toUInt8] ++ beL 4 [f, t]) (by omega) (by simp) (by simp [beL_length])
  have p3 := put 4 [body.length] ([70, k.toUInt8] ++ beL 4 [f, t] ++ beL 8 [s, a]) (by omega) (by simp) (by simp [beL_length])
  simp only [nums, List.map_cons, List.map_nil] at p1 p2 p3
  have ap := append_bytes (c := A.length + 1) (l := [70, k.toUInt8] ++ beL 4 [f, t] ++ beL 8 [s, a] ++ beL 4 [body.length]) (m := body) (o := o) hes
    (A := wr B (A.length + 1 + 1) (A.length + 1) ([70, k.toUInt8] ++ beL 4 [f, t] ++ beL 8 [s, a] ++ beL 4 [body.length])) (wr_c (by omega) (by omega)) (by simp [beL_length]; omega)
  have kp := iff_true_intro (Kept_new (Kept_wr_new hK (k := A.length + 1 + 1) (c := A.length + 1) (by omega) (by omega) ([70, k.toUInt8] ++ beL 4 [f, t] ++ beL 8 [s, a] ++ beL 4 [body.length]))
    (.tok (([70, k.toUInt8] ++ beL 4 [f, t] ++ beL 8 [s, a] ++ beL 4 [body.length]).length + body.length)) (j := A.length + 1) (by omega))
  have tk := take_new (take_wr_new hT (k := A.length + 1 + 1) (c := A.length + 1) (by omega) (by omega) ([70, k.toUInt8] ++ beL 4 [f, t] ++ beL 8 [s, a] ++ beL 4 [body.length]))
    (.tok (([70, k.toUInt8] ++ beL 4 [f, t] ++ beL 8 [s, a] ++ beL 4 [body.length]).length + body.length)) (j := A.length + 1) (by omega)
  rw [hw]
  have q1 : Run Try.prog codecH 23 [.ref (A.length + 1 + 1) 0, .int .i64 4, .sl .full 1 [.int .u64 (f : Int), .int .u64 t]] (wr B (A.length + 1 + 1) (A.length + 1) [70, k.toUInt8]) = _ := p1
  have q2 : Run Try.prog codecH 23 [.ref (A.length + 1 + 1) 0, .int .i64 8, .sl .full 1 [.int .u64 (s : Int), .int .u64 a]] (wr B (A.length + 1 + 1) (A.length + 1) ([70, k.toUInt8] ++ beL 4 [f, t])) = _ := p2
  have q3 : Run Try.prog codecH 23 [.ref (A.length + 1 + 1) 0, .int .i64 4, .sl .full 1 [.int .u64 (body.length : Int)]] (wr B (A.length + 1 + 1) (A.length + 1) ([70, k.toUInt8] ++ beL 4 [f, t] ++ beL 8 [s, a])) = _ := p3
  simp (disch := first | omega | assumption) only [qc7, qb1, qbc, qap, qb2, Option.map_some, qai, qac, qb0, qbg, qbh, Nat.zero_add, ld, lk, qbz, qby, qb3, qaa, q1, q2, q3, ap, kp, tk, qaq, qah, qbw, qay, qc5, qbe, qbx, qbf, qc3, frameBytes]
end Go.Vm.Codec

/- What the codec's reader comes to. -/
namespace Go.Vm.Codec
open Go.Proofs
set_option linter.unusedVariables false
set_option linter.unusedSimpArgs false
set_option maxRecDepth 10000
set_option maxHeartbeats 1000000

def faultD (p e : Int) : D := .iface 69 (.agg [.int .i64 p, .int .i64 e])
theorem qd7 (n : Nat) (p e : Int) : (faultD p e).shut n = faultD p e := by simp [faultD]
/-- stop -/
theorem s27 (p : Int) (A : St) : Run Try.prog codecH 27 [.int .i64 p] A = some (.pan (faultD p 180), A) := by
  rw [r27]
  unfold f27
  simp only [qc7, qdg, qb1, qbc, qap, qb2, qce, Sum.elim_inl, Sum.elim_inr, Option.map_some, Option.map_none, Option.bind_some, Option.bind_none, Option.bind_eq_bind, qd0, qdz, qcz, qcr, qct, qcu, qcv, qcw, qcx, qcy, qcs, shl8, or8, shr8, qbu, qbs, qbp, qcn, qbo, qb3, qcp, qco, qbq, qa6, qaz, qat, qaj, qdq, qdo, qdn, qdp, qcf, qcg, qch, qci, qcj, qck, qcl, qcm, qd3, qd4, qd1, qd2, qaa, qbg, qbh, qau, qak, qae, qaf, qaw, qb6, qbv, qbe, qbx, qbd, qca, qbj, qb8, qc5, qcb, qbw, qbk, qa0, qb9, qbf, qay, qdl, qcc, qc9, qc3, qbi, qao, qb5, qa7, qa5, qaq, qah, qan, qa4, qa3, qas, qai, qad, qac, qab, qb0, qa2, qbn, qbz, qby, qa8, List.take_length, List.map_nil, List.drop_zero, List.drop_succ_cons, Nat.zero_add, Nat.add_zero, qba, qbb, qc6, qbm, qbl, qc8, qb4, qb7, qax, qa1, qar, qda, qbt, qdd, qcq, qal, qam, qag, qav, cond_true, cond_false, qc0, qdb, qc4, qdf, qdm, qcd, qdy, qde, qdc, ofA2, ofA3, ofA4, ofA6, packD, List.take_left, List.length_append, List.length_cons, List.length_nil, List.length_set, faultD]
/-- take -/
theorem s31 (A : St) (k n : Nat) (hk : k < A.length) (o : Own) (ho : o.shut A.length = o) (l : List UInt8) (p : Int) (hp0 : 0 ≤ p) (hp : p + n ≤ 9223372036854775807) (h : n ≤ l.length) :
    Run Try.prog codecH 31 [.ref k 0, .int .i64 n] (rd A k o l p) = some (.ret (.sl .full 1 (strBytes (l.take n))), rd A k (o.adv n) (l.drop n) (p + n)) := by
  rw [r31]
  unfold f31
  have ho' := adv_shut ho n
  simp (disch := first | omega | assumption) only [qc7, qdg, qb1, qbc, qap, qb2, qce, Sum.elim_inl, Sum.elim_inr, Option.map_some, Option.map_none, Option.bind_some, Option.bind_none, Option.bind_eq_bind, qd0, qdz, qcz, qcr, qct, qcu, qcv, qcw, qcx, qcy, qcs, shl8, or8, shr8, qbu, qbs, qbp, qcn, qbo, qb3, qcp, qco, qbq, qa6, qaz, qat, qaj, qdq, qdo, qdn, qdp, qcf, qcg, qch, qci, qcj, qck, qcl, qcm, qd3, qd4, qd1, qd2, qaa, qbg, qbh, qau, qak, qae, qaf, qaw, qb6, qbv, qbe, qbx, qbd, qca, qbj, qb8, qc5, qcb, qbw, qbk, qa0, qb9, qbf, qay, qdl, qcc, qc9, qc3, qbi, qao, qb5, qa7, qa5, qaq, qah, qan, qa4, qa3, qas, qai, qad, qac, qab, qb0, qa2, qbn, qbz, qby, qa8, List.take_length, List.map_nil, List.drop_zero, List.drop_succ_cons, Nat.zero_add, Nat.add_zero, qba, qbb, qc6, qbm, qbl, qc8, qb4, qb7, qax, qa1, qar, qda, qbt, qdd, qcq, qal, qam, qag, qav, cond_true, cond_false, qc0, qdb, qc4, qdf, qdm, qcd, qdy, qde, qdc, ofA2, ofA3, ofA4, ofA6, packD, List.take_left, List.length_append, List.length_cons, List.length_nil, List.length_set]
theorem s31_pan (A : St) (k n : Nat) (hk : k < A.length) (o : Own) (ho : o.shut A.length = o) (l : List UInt8) (p : Int) (hl : n ≤ 9223372036854775807) (h : ¬ n ≤ l.length) :
    Run Try.prog codecH 31 [.ref k 0, .int .i64 n] (rd A k o l p) = some (.pan (faultD p 180), rd A k o l p) := by
  rw [r31]
  unfold f31
  simp (disch := first | omega | assumption) only [qc7, qdg, qb1, qbc, qap, qb2, qce, Sum.elim_inl, Sum.elim_inr, Option.map_some, Option.map_none, Option.bind_some, Option.bind_none, Option.bind_eq_bind, qd0, qdz, qcz, qcr, qct, qcu, qcv, qcw, qcx, qcy, qcs, shl8, or8, shr8, qbu, qbs, qbp, qcn, qbo, qb3, qcp, qco, qbq, qa6, qaz, qat, qaj, qdq, qdo, qdn, qdp, qcf, qcg, qch, qci, qcj, qck, qcl, qcm, qd3, qd4, qd1, qd2, qaa, qbg, qbh, qau, qak, qae, qaf, qaw, qb6, qbv, qbe, qbx, qbd, qca, qbj, qb8, qc5, qcb, qbw, qbk, qa0, qb9, qbf, qay, qdl, qcc, qc9, qc3, qbi, qao, qb5, qa7, qa5, qaq, qah, qan, qa4, qa3, qas, qai, qad, qac, qab, qb0, qa2, qbn, qbz, qby, qa8, List.take_length, List.map_nil, List.drop_zero, List.drop_succ_cons, Nat.zero_add, Nat.add_zero, qba, qbb, qc6, qbm, qbl, qc8, qb4, qb7, qax, qa1, qar, qda, qbt, qdd, qcq, qal, qam, qag, qav, cond_true, cond_false, qc0, qdb, qc4, qdf, qdm, qcd, qdy, qde, qdc, ofA2, ofA3, ofA4, ofA6, packD, List.take_left, List.length_append, List.length_cons, List.length_nil, List.length_set, s27, qd7]
theorem s28_loop (call : FuncId → List D → St → ORes) (dcall : D → List D → Option D → St → Option (Option D × St)) (A B : St) (hK : Kept A B) (hT : B.take A.length = B) (s : List UInt8) (hn : s.length ≤ 8) :
    ∀ (m i : Nat) (o : Own), i + m = s.length →
    iterK (f28_s0 call dcall A) (Env.mk [D.any, D.any, D.any, D.any, D.any, (D.int IntKind.u64 (num (s.take i))), D.any, D.any, D.any, D.any, D.any, D.any, .sl o 1 (strBytes s), .int .i64 s.length, (D.int IntKind.i64 i), D.any, D.any, D.any, D.any, D.any, D.any, D.any, D.any, D.any, D.any] []) B =
      some (.ret (.int .u64 (num s)), B) := by
  intro m
  have hK' := iff_true_intro hK
  induction m with
  | zero =>
    intro i o hi
    have : i = s.length := by omega
    subst this
    rw [qd6]
    conv => lhs; arg 1; unfold f28_s0; simp (disch := omega) only [qc7, qdg, qb1, qbc, qap, qb2, qce, Sum.elim_inl, Sum.elim_inr, Option.map_some, Option.map_none, Option.bind_some, Option.bind_none, Option.bind_eq_bind, qd0, qdz, qcz, qcr, qct, qcu, qcv, qcw, qcx, qcy, qcs, shl8, or8, shr8, qbu, qbs, qbp, qcn, qbo, qb3, qcp, qco, qbq, qa6, qaz, qat, qaj, qdq, qdo, qdn, qdp, qcf, qcg, qch, qci, qcj, qck, qcl, qcm, qd3, qd4, qd1, qd2, qaa, qbg, qbh, qau, qak, qae, qaf, qaw, qb6, qbv, qbe, qbx, qbd, qca, qbj, qb8, qc5, qcb, qbw, qbk, qa0, qb9, qbf, qay, qdl, qcc, qc9, qc3, qbi, qao, qb5, qa7, qa5, qaq, qah, qan, qa4, qa3, qas, qai, qad, qac, qab, qb0, qa2, qbn, qbz, qby, qa8, List.take_length, List.map_nil, List.drop_zero, List.drop_succ_cons, Nat.zero_add, Nat.add_zero, qba, qbb, qc6, qbm, qbl, qc8, qb4, qb7, qax, qa1, qar, qda, qbt, qdd, qcq, qal, qam, qag, qav, cond_true, cond_false, qc0, qdb, qc4, qdf, qdm, qcd, qdy, qde, qdc, ofA2, ofA3, ofA4, ofA6, packD, List.take_left, List.length_append, List.length_cons, List.length_nil, List.length_set, hK', hT]
    simp only [qc7, qdg, qb1, qbc, qap, qb2, qce, Sum.elim_inl, Sum.elim_inr, Option.map_some, Option.map_none, Option.bind_some, Option.bind_none, Option.bind_eq_bind, qd0, qdz, qcz, qcr, qct, qcu, qcv, qcw, qcx, qcy, qcs, shl8, or8, shr8, qbu, qbs, qbp, qcn, qbo, qb3, qcp, qco, qbq, qa6, qaz, qat, qaj, qdq, qdo, qdn, qdp, qcf, qcg, qch, qci, qcj, qck, qcl, qcm, qd3, qd4, qd1, qd2, qaa, qbg, qbh, qau, qak, qae, qaf, qaw, qb6, qbv, qbe, qbx, qbd, qca, qbj, qb8, qc5, qcb, qbw, qbk, qa0, qb9, qbf, qay, qdl, qcc, qc9, qc3, qbi, qao, qb5, qa7, qa5, qaq, qah, qan, qa4, qa3, qas, qai, qad, qac, qab, qb0, qa2, qbn, qbz, qby, qa8, List.take_length, List.map_nil, List.drop_zero, List.drop_succ_cons, Nat.zero_add, Nat.add_zero, qba, qbb, qc6, qbm, qbl, qc8, qb4, qb7, qax, qa1, qar, qda, qbt, qdd, qcq, qal, qam, qag, qav, cond_true, cond_false, qc0, qdb, qc4, qdf, qdm, qcd, qdy, qde, qdc, ofA2, ofA3, ofA4, ofA6, packD, List.take_left, List.length_append, List.length_cons, List.length_nil, List.length_set]
  | succ m ih =>
    intro i o hi
    have hlt : i < s.length := by omega
    have hx : num (s.take i) < 256 ^ 7 := by
      refine Nat.lt_of_lt_of_le (num_lt _) (Nat.pow_le_pow_right (by omega) ?_)
      simp; omega
    have hb : s[i].toNat < 256 := UInt8.toNat_lt _
    have hnum : num (s.take i) * 256 + s[i].toNat = num (s.take (i + 1)) := by
      rw [List.take_add_one, List.getElem?_eq_getElem hlt]
      simp only [Option.toList_some, num_append1]
    have hix := qa8 o s i .i64 (by omega) (by simpa using hlt)
    simp only [Int.toNat_natCast] at hix
    rw [qd6]
    conv => lhs; arg 1; unfold f28_s0; simp (disch := first | omega | assumption) only [qc7, qdg, qb1, qbc, qap, qb2, qce, Sum.elim_inl, Sum.elim_inr, Option.map_some, Option.map_none, Option.bind_some, Option.bind_none, Option.bind_eq_bind, qd0, qdz, qcz, qcr, qct, qcu, qcv, qcw, qcx, qcy, qcs, shl8, or8, shr8, qbu, qbs, qbp, qcn, qbo, qb3, qcp, qco, qbq, qa6, qaz, qat, qaj, qdq, qdo, qdn, qdp, qcf, qcg, qch, qci, qcj, qck, qcl, qcm, qd3, qd4, qd1, qd2, qaa, qbg, qbh, qau, qak, qae, qaf, qaw, qb6, qbv, qbe, qbx, qbd, qca, qbj, qb8, qc5, qcb, qbw, qbk, qa0, qb9, qbf, qay, qdl, qcc, qc9, qc3, qbi, qao, qb5, qa7, qa5, qaq, qah, qan, qa4, qa3, qas, qai, qad, qac, qab, qb0, qa2, qbn, qbz, qby, qa8, List.take_length, List.map_nil, List.drop_zero, List.drop_succ_cons, Nat.zero_add, Nat.add_zero, qba, qbb, qc6, qbm, qbl, qc8, qb4, qb7, qax, qa1, qar, qda, qbt, qdd, qcq, qal, qam, qag, qav, cond_true, cond_false, qc0, qdb, qc4, qdf, qdm, qcd, qdy, qde, qdc, ofA2, ofA3, ofA4, ofA6, packD, List.take_left, List.length_append, List.length_cons, List.length_nil, List.length_set, hix]
    simp only [qc7, qdg, qb1, qbc, qap, qb2, qce, Sum.elim_inl, Sum.elim_inr, Option.map_some, Option.map_none, Option.bind_some, Option.bind_none, Option.bind_eq_bind, qd0, qdz, qcz, qcr, qct, qcu, qcv, qcw, qcx, qcy, qcs, shl8, or8, shr8, qbu, qbs, qbp, qcn, qbo, qb3, qcp, qco, qbq, qa6, qaz, qat, qaj, qdq, qdo, qdn, qdp, qcf, qcg, qch, qci, qcj, qck, qcl, qcm, qd3, qd4, qd1, qd2, qaa, qbg, qbh, qau, qak, qae, qaf, qaw, qb6, qbv, qbe, qbx, qbd, qca, qbj, qb8, qc5, qcb, qbw, qbk, qa0, qb9, qbf, qay, qdl, qcc, qc9, qc3, qbi, qao, qb5, qa7, qa5, qaq, qah, qan, qa4, qa3, qas, qai, qad, qac, qab, qb0, qa2, qbn, qbz, qby, qa8, List.take_length, List.map_nil, List.drop_zero, List.drop_succ_cons, Nat.zero_add, Nat.add_zero, qba, qbb, qc6, qbm, qbl, qc8, qb4, qb7, qax, qa1, qar, qda, qbt, qdd, qcq, qal, qam, qag, qav, cond_true, cond_false, qc0, qdb, qc4, qdf, qdm, qcd, qdy, qde, qdc, ofA2, ofA3, ofA4, ofA6, packD, List.take_left, List.length_append, List.length_cons, List.length_nil, List.length_set]
    rw [hnum]
    exact ih (i + 1) _ (by omega)
/-- get -/
theorem s28 (A : St) (k n : Nat) (hk : k < A.length) (o : Own) (ho : o.shut A.length = o) (l : List UInt8) (p : Int) (hp0 : 0 ≤ p) (hp : p + n ≤ 9223372036854775807) (h : n ≤ l.length) (hn : n ≤ 8) :
    Run Try.prog codecH 28 [.ref k 0, .int .i64 n] (rd A k o l p) = some (.ret (.int .u64 (num (l.take n))), rd A k (o.adv n) (l.drop n) (p + n)) := by
  rw [r28]
  unfold f28
  have ho' := adv_shut ho n
  have h1 := s31 A k n hk o ho l p hp0 hp h
  simp (disch := first | omega | assumption) only [qc7, qdg, qb1, qbc, qap, qb2, qce, Sum.elim_inl, Sum.elim_inr, Option.map_some, Option.map_none, Option.bind_some, Option.bind_none, Option.bind_eq_bind, qd0, qdz, qcz, qcr, qct, qcu, qcv, qcw, qcx, qcy, qcs, shl8, or8, shr8, qbu, qbs, qbp, qcn, qbo, qb3, qcp, qco, qbq, qa6, qaz, qat, qaj, qdq, qdo, qdn, qdp, qcf, qcg, qch, qci, qcj, qck, qcl, qcm, qd3, qd4, qd1, qd2, qaa, qbg, qbh, qau, qak, qae, qaf, qaw, qb6, qbv, qbe, qbx, qbd, qca, qbj, qb8, qc5, qcb, qbw, qbk, qa0, qb9, qbf, qay, qdl, qcc, qc9, qc3, qbi, qao, qb5, qa7, qa5, qaq, qah, qan, qa4, qa3, qas, qai, qad, qac, qab, qb0, qa2, qbn, qbz, qby, qa8, List.take_length, List.map_nil, List.drop_zero, List.drop_succ_cons, Nat.zero_add, Nat.add_zero, qba, qbb, qc6, qbm, qbl, qc8, qb4, qb7, qax, qa1, qar, qda, qbt, qdd, qcq, qal, qam, qag, qav, cond_true, cond_false, qc0, qdb, qc4, qdf, qdm, qcd, qdy, qde, qdc, ofA2, ofA3, ofA4, ofA6, packD, List.take_left, List.length_append, List.length_cons, List.length_nil, List.length_set, h1]
  have hl : (l.take n).length = n := by rw [List.length_take]; omega
  exact s28_loop _ _ (rd A k o l p) (rd A k (o.adv n) (l.drop n) (p + n)) ((qb4 ho').2 trivial) (by rw [qbb, qc8]) (l.take n) (by omega) n 0 _ (by omega)
theorem s28_pan (A : St) (k n : Nat) (hk : k < A.length) (o : Own) (ho : o.shut A.length = o) (l : List UInt8) (p : Int) (hl : n ≤ 9223372036854775807) (h : ¬ n ≤ l.length) :
    Run Try.prog codecH 28 [.ref k 0, .int .i64 n] (rd A k o l p) = some (.pan (faultD p 180), rd A k o l p) := by
  rw [r28]
  unfold f28
  have h1 := s31_pan A k n hk o ho l p hl h
  simp (disch := first | omega | assumption) only [qc7, qdg, qb1, qbc, qap, qb2, qce, Sum.elim_inl, Sum.elim_inr, Option.map_some, Option.map_none, Option.bind_some, Option.bind_none, Option.bind_eq_bind, qd0, qdz, qcz, qcr, qct, qcu, qcv, qcw, qcx, qcy, qcs, shl8, or8, shr8, qbu, qbs, qbp, qcn, qbo, qb3, qcp, qco, qbq, qa6, qaz, qat, qaj, qdq, qdo, qdn, qdp, qcf, qcg, qch, qci, qcj, qck, qcl, qcm, qd3, qd4, qd1, qd2, qaa, qbg, qbh, qau, qak, qae, qaf, qaw, qb6, qbv, qbe, qbx, qbd, qca, qbj, qb8, qc5, qcb, qbw, qbk, qa0, qb9, qbf, qay, qdl, qcc, qc9, qc3, qbi, qao, qb5, qa7, qa5, qaq, qah, qan, qa4, qa3, qas, qai, qad, qac, qab, qb0, qa2, qbn, qbz, qby, qa8, List.take_length, List.map_nil, List.drop_zero, List.drop_succ_cons, Nat.zero_add, Nat.add_zero, qba, qbb, qc6, qbm, qbl, qc8, qb4, qb7, qax, qa1, qar, qda, qbt, qdd, qcq, qal, qam, qag, qav, cond_true, cond_false, qc0, qdb, qc4, qdf, qdm, qcd, qdy, qde, qdc, ofA2, ofA3, ofA4, ofA6, packD, List.take_left, List.length_append, List.length_cons, List.length_nil, List.length_set, h1, qd7]
/-- within -/
theorem s29 (A : St) (k n : Nat) (hk : k < A.length) (o : Own) (ho : o.shut A.length = o) (l : List UInt8) (p : Int) (hp0 : 0 ≤ p) (hp : p + n ≤ 9223372036854775807) (h : n ≤ l.length) (hn : n ≤ 7) (most : Nat)
    (hm : num (l.take n) ≤ most) :
    Run Try.prog codecH 29 [.ref k 0, .int .i64 n, .int .u64 most] (rd A k o l p) = some (.ret (.int .i64 (num (l.take n))), rd A k (o.adv n) (l.drop n) (p + n)) := by
  rw [r29]
  unfold f29
  have ho' := adv_shut ho n
  have h1 := s28 A k n hk o ho l p hp0 hp h (by omega)
  have hx : num (l.take n) < 256 ^ 7 := by
    refine Nat.lt_of_lt_of_le (num_lt _) (Nat.pow_le_pow_right (by omega) ?_)
    simp; omega
  have e7 : (256 : Nat) ^ 7 = 72057594037927936 := by decide
  rw [e7] at hx
  simp (disch := first | omega | assumption) only [qc7, qdg, qb1, qbc, qap, qb2, qce, Sum.elim_inl, Sum.elim_inr, Option.map_some, Option.map_none, Option.bind_some, Option.bind_none, Option.bind_eq_bind, qd0, qdz, qcz, qcr, qct, qcu, qcv, qcw, qcx, qcy, qcs, shl8, or8, shr8, qbu, qbs, qbp, qcn, qbo, qb3, qcp, qco, qbq, qa6, qaz, qat, qaj, qdq, qdo, qdn, qdp, qcf, qcg, qch, qci, qcj, qck, qcl, qcm, qd3, qd4, qd1, qd2, qaa, qbg, qbh, qau, qak, qae, qaf, qaw, qb6, qbv, qbe, qbx, qbd, qca, qbj, qb8, qc5, qcb, qbw, qbk, qa0, qb9, qbf, qay, qdl, qcc, qc9, qc3, qbi, qao, qb5, qa7, qa5, qaq, qah, qan, qa4, qa3, qas, qai, qad, qac, qab, qb0, qa2, qbn, qbz, qby, qa8, List.take_length, List.map_nil, List.drop_zero, List.drop_succ_cons, Nat.zero_add, Nat.add_zero, qba, qbb, qc6, qbm, qbl, qc8, qb4, qb7, qax, qa1, qar, qda, qbt, qdd, qcq, qal, qam, qag, qav, cond_true, cond_false, qc0, qdb, qc4, qdf, qdm, qcd, qdy, qde, qdc, ofA2, ofA3, ofA4, ofA6, packD, List.take_left, List.length_append, List.length_cons, List.length_nil, List.length_set, h1]
theorem s29_much (A : St) (k n : Nat) (hk : k < A.length) (o : Own) (ho : o.shut A.length = o) (l : List UInt8) (p : Int) (hp0 : 0 ≤ p) (hp : p + n ≤ 9223372036854775807) (h : n ≤ l.length) (hn : n ≤ 8) (most : Nat)
    (hm : ¬ num (l.take n) ≤ most) :
    Run Try.prog codecH 29 [.ref k 0, .int .i64 n, .int .u64 most] (rd A k o l p) = some (.pan (faultD p 180), rd A k (o.adv n) (l.drop n) (p + n)) := by
  rw [r29]
  unfold f29
  have ho' := adv_shut ho n
  have h1 := s28 A k n hk o ho l p hp0 hp h (by omega)
  simp (disch := first | omega | assumption) only [qc7, qdg, qb1, qbc, qap, qb2, qce, Sum.elim_inl, Sum.elim_inr, Option.map_some, Option.map_none, Option.bind_some, Option.bind_none, Option.bind_eq_bind, qd0, qdz, qcz, qcr, qct, qcu, qcv, qcw, qcx, qcy, qcs, shl8, or8, shr8, qbu, qbs, qbp, qcn, qbo, qb3, qcp, qco, qbq, qa6, qaz, qat, qaj, qdq, qdo, qdn, qdp, qcf, qcg, qch, qci, qcj, qck, qcl, qcm, qd3, qd4, qd1, qd2, qaa, qbg, qbh, qau, qak, qae, qaf, qaw, qb6, qbv, qbe, qbx, qbd, qca, qbj, qb8, qc5, qcb, qbw, qbk, qa0, qb9, qbf, qay, qdl, qcc, qc9, qc3, qbi, qao, qb5, qa7, qa5, qaq, qah, qan, qa4, qa3, qas, qai, qad, qac, qab, qb0, qa2, qbn, qbz, qby, qa8, List.take_length, List.map_nil, List.drop_zero, List.drop_succ_cons, Nat.zero_add, Nat.add_zero, qba, qbb, qc6, qbm, qbl, qc8, qb4, qb7, qax, qa1, qar, qda, qbt, qdd, qcq, qal, qam, qag, qav, cond_true, cond_false, qc0, qdb, qc4, qdf, qdm, qcd, qdy, qde, qdc, ofA2, ofA3, ofA4, ofA6, packD, List.take_left, List.length_append, List.length_cons, List.length_nil, List.length_set, h1, s27, qd7]
theorem s29_pan (A : St) (k n : Nat) (hk : k < A.length) (o : Own) (ho : o.shut A.length = o) (l : List UInt8) (p : Int) (hl : n ≤ 9223372036854775807) (h : ¬ n ≤ l.length) (most : Nat) :
    Run Try.prog codecH 29 [.ref k 0, .int .i64 n, .int .u64 most] (rd A k o l p) = some (.pan (faultD p 180), rd A k o l p) := by
  rw [r29]
  unfold f29
  have h1 := s28_pan A k n hk o ho l p hl h
  simp (disch := first | omega | assumption) only [qc7, qdg, qb1, qbc, qap, qb2, qce, Sum.elim_inl, Sum.elim_inr, Option.map_some, Option.map_none, Option.bind_some, Option.bind_none, Option.bind_eq_bind, qd0, qdz, qcz, qcr, qct, qcu, qcv, qcw, qcx, qcy, qcs, shl8, or8, shr8, qbu, qbs, qbp, qcn, qbo, qb3, qcp, qco, qbq, qa6, qaz, qat, qaj, qdq, qdo, qdn, qdp, qcf, qcg, qch, qci, qcj, qck, qcl, qcm, qd3, qd4, qd1, qd2, qaa, qbg, qbh, qau, qak, qae, qaf, qaw, qb6, qbv, qbe, qbx, qbd, qca, qbj, qb8, qc5, qcb, qbw, qbk, qa0, qb9, qbf, qay, qdl, qcc, qc9, qc3, qbi, qao, qb5, qa7, qa5, qaq, qah, qan, qa4, qa3, qas, qai, qad, qac, qab, qb0, qa2, qbn, qbz, qby, qa8, List.take_length, List.map_nil, List.drop_zero, List.drop_succ_cons, Nat.zero_add, Nat.add_zero, qba, qbb, qc6, qbm, qbl, qc8, qb4, qb7, qax, qa1, qar, qda, qbt, qdd, qcq, qal, qam, qag, qav, cond_true, cond_false, qc0, qdb, qc4, qdf, qdm, qcd, qdy, qde, qdc, ofA2, ofA3, ofA4, ofA6, packD, List.take_left, List.length_append, List.length_cons, List.length_nil, List.length_set, h1, qd7]
end Go.Vm.Codec
