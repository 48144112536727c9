/- Both tests of sameness come to the same. -/
import Derived.Test.YtkhcbemdcehkdaaCodecS15
import Derived.Test.YtkhcbemdcehkdaaCodecF2
set_option linter.all false
namespace Go.Vm.Codec
open Go.Proofs
set_option linter.unusedVariables false
set_option linter.unusedSimpArgs false
set_option maxRecDepth 10000
set_option maxHeartbeats 1000000

structure RRes where
  i : Int
  n : Int
  vo : Own
  v : Stamps
  so : Own
  sh : Shares
def RRes.D (r : RRes) : D := resD r.i r.n r.vo r.v r.so r.sh
def RRes.C (r : RRes) : List Vm.D := [.int .i64 r.i, .int .i64 r.n, .sl r.vo 2 (stampsD r.v), .sl r.so 2 (sharesD r.sh)]
structure RRes.Ok (r : RRes) : Prop where
  v : r.v.length ≤ 9223372036854775807
  s : r.sh.length ≤ 9223372036854775807
  d : ∀ s ∈ r.sh, s.d.length ≤ 9223372036854775807
theorem two0 (A : St) (x y : List D) (g : Bool) (n off : Nat) : loadO g n (.ref A.length off) (A ++ [Slot.cells x, .cells y]) = ofCells g x off n := load_ref (by rw [get_app _ _ _ 0 (by omega)]; rfl)
theorem two1 (A : St) (x y : List D) (g : Bool) (n off : Nat) : loadO g n (.ref (A.length + 1) off) (A ++ [Slot.cells x, .cells y]) = ofCells g y off n := load_ref (by rw [get_app _ _ _ 1 (by omega)]; rfl)
theorem s38_loop (A : St) (a b : Stamps) (hab : a.length = b.length) (hl : a.length ≤ 9223372036854775807) : ∀ (m i : Nat) (o o' : Own), i + m = a.length →
    iterK (f38_s0 (Run Try.prog codecH) (Dcall Try.prog codecH) A) (Env.mk [.sl o 2 (stampsD a), .sl o' 2 (stampsD b), D.any, D.any, D.any, .int .i64 i, D.any, D.any, D.any, D.any, D.any, D.any, D.any, D.any, D.any, D.any, D.any, D.any, D.any, D.any, D.any, D.any, D.any, D.any, D.any, D.any] []) A = some (.ret (.bool (decide (a.drop i = b.drop i))), A) := by
  intro m
  induction m with
  | zero =>
    intro i o o' hi
    rw [List.drop_of_length_le (by omega), List.drop_of_length_le (by omega)]
    have hstep : f38_s0 (Run Try.prog codecH) (Dcall Try.prog codecH) A (Env.mk [.sl o 2 (stampsD a), .sl o' 2 (stampsD b), D.any, D.any, D.any, .int .i64 i, D.any, D.any, D.any, D.any, D.any, D.any, D.any, D.any, D.any, D.any, D.any, D.any, D.any, D.any, D.any, D.any, D.any, D.any, D.any, D.any] []) A = some (.inr (.ret (.bool true), A)) := by
      unfold f38_s0
      simp (disch := omega) only [qc7, qdg, qb1, qbc, qap, qb2, qce, Sum.elim_inl, Sum.elim_inr, Option.map_some, Option.map_none, Option.bind_some, Option.bind_none, Option.bind_eq_bind, qd0, qdz, qcz, qcr, qct, qcu, qcv, qcw, qcx, qcy, qcs, shl8, or8, shr8, qbu, qbs, qbp, qcn, qbo, qb3, qcp, qco, qbq, qa6, qaz, qat, qaj, qdq, qdo, qdn, qdp, qcf, qcg, qch, qci, qcj, qck, qcl, qcm, qd3, qd4, qd1, qd2, qaa, qbg, qbh, qau, qak, qae, qaf, qaw, qb6, qbv, qbe, qbx, qbd, qca, qbj, qb8, qc5, qcb, qbw, qbk, qa0, qb9, qbf, qay, qdl, qcc, qc9, qc3, qbi, qao, qb5, qa7, qa5, qaq, qah, qan, qa4, qa3, qas, qai, qad, qac, qab, qb0, qa2, qbn, qbz, qby, qa8, List.take_length, List.map_nil, List.drop_zero, List.drop_succ_cons, Nat.zero_add, Nat.add_zero, qba, qbb, qc6, qbm, qbl, qc8, qb4, qb7, qax, qa1, qar, qda, qbt, qdd, qcq, qal, qam, qag, qav, cond_true, cond_false, qc0, qdb, qc4, qdf, qdm, qcd, qdy, qde, qdc, ofA2, ofA3, ofA4, ofA6, packD, List.take_left, List.length_append, List.length_cons, List.length_nil, List.length_set, stampsD_length]
    rw [qd6, hstep]
    rfl
  | succ m ih =>
    intro i o o' hi
    have h1 : i < a.length := by omega
    have h2 : i < b.length := by omega
    have d1 : a.drop i = a[i] :: a.drop (i + 1) := List.drop_eq_getElem_cons h1
    have d2 : b.drop i = b[i] :: b.drop (i + 1) := List.drop_eq_getElem_cons h2
    by_cases he : a[i] = b[i]
    · have hq : decide ((a[i].1, a[i].2) = (b[i].1, b[i].2)) = true := decide_eq_true (by rw [he])
      have hstep : f38_s0 (Run Try.prog codecH) (Dcall Try.prog codecH) A (Env.mk [.sl o 2 (stampsD a), .sl o' 2 (stampsD b), D.any, D.any, D.any, .int .i64 i, D.any, D.any, D.any, D.any, D.any, D.any, D.any, D.any, D.any, D.any, D.any, D.any, D.any, D.any, D.any, D.any, D.any, D.any, D.any, D.any] []) A =
          some (.inl ((Env.mk [.sl (o.shut A.length) 2 (stampsD a), .sl (o'.shut A.length) 2 (stampsD b), D.any, D.any, D.any, .int .i64 ((i + 1 : Nat) : Int), D.any, D.any, D.any, D.any, D.any, D.any, D.any, D.any, D.any, D.any, D.any, D.any, D.any, D.any, D.any, D.any, D.any, D.any, D.any, D.any] []), A)) := by
        unfold f38_s0
        (repeat (first | (first | with_reducible refine qdh ?_ | with_reducible refine qdj ?_ | with_reducible refine qdk ?_ | with_reducible refine qdt ?_ | with_reducible refine qdi ?_ | with_reducible refine qbr ?_ | with_reducible refine qc2 ?_ | with_reducible refine qa9 ?_ | with_reducible refine qdw ?_ | with_reducible refine qdx ?_ | with_reducible refine qdr ?_ | with_reducible refine qds ?_ | with_reducible refine qdv ?_ | with_reducible refine qdu ?_ | with_reducible refine qc1 ?_) | ((conv => lhs; arg 1; simp (disch := first | omega | assumption) only [qc7, qdg, qb1, qbc, qap, qb2, qce, Sum.elim_inl, Sum.elim_inr, Option.map_some, Option.map_none, Option.bind_some, Option.bind_none, Option.bind_eq_bind, qd0, qdz, qcz, qcr, qct, qcu, qcv, qcw, qcx, qcy, qcs, shl8, or8, shr8, qbu, qbs, qbp, qcn, qbo, qb3, qcp, qco, qbq, qa6, qaz, qat, qaj, qdq, qdo, qdn, qdp, qcf, qcg, qch, qci, qcj, qck, qcl, qcm, qd3, qd4, qd1, qd2, qaa, qbg, qbh, qau, qak, qae, qaf, qaw, qb6, qbv, qbe, qbx, qbd, qca, qbj, qb8, qc5, qcb, qbw, qbk, qa0, qb9, qbf, qay, qdl, qcc, qc9, qc3, qbi, qao, qb5, qa7, qa5, qaq, qah, qan, qa4, qa3, qas, qai, qad, qac, qab, qb0, qa2, qbn, qbz, qby, qa8, List.take_length, List.map_nil, List.drop_zero, List.drop_succ_cons, Nat.zero_add, Nat.add_zero, qba, qbb, qc6, qbm, qbl, qc8, qb4, qb7, qax, qa1, qar, qda, qbt, qdd, qcq, qal, qam, qag, qav, cond_true, cond_false, qc0, qdb, qc4, qdf, qdm, qcd, qdy, qde, qdc, ofA2, ofA3, ofA4, ofA6, packD, List.take_left, List.length_append, List.length_cons, List.length_nil, List.length_set, index_st, neq_st, hq, Bool.not_true, stampsD_length]); (first | with_reducible refine qdh ?_ | with_reducible refine qdj ?_ | with_reducible refine qdk ?_ | with_reducible refine qdt ?_ | with_reducible refine qdi ?_ | with_reducible refine qbr ?_ | with_reducible refine qc2 ?_ | with_reducible refine qa9 ?_ | with_reducible refine qdw ?_ | with_reducible refine qdx ?_ | with_reducible refine qdr ?_ | with_reducible refine qds ?_ | with_reducible refine qdv ?_ | with_reducible refine qdu ?_ | with_reducible refine qc1 ?_))))
        simp (disch := first | omega | assumption) only [qc7, qdg, qb1, qbc, qap, qb2, qce, Sum.elim_inl, Sum.elim_inr, Option.map_some, Option.map_none, Option.bind_some, Option.bind_none, Option.bind_eq_bind, qd0, qdz, qcz, qcr, qct, qcu, qcv, qcw, qcx, qcy, qcs, shl8, or8, shr8, qbu, qbs, qbp, qcn, qbo, qb3, qcp, qco, qbq, qa6, qaz, qat, qaj, qdq, qdo, qdn, qdp, qcf, qcg, qch, qci, qcj, qck, qcl, qcm, qd3, qd4, qd1, qd2, qaa, qbg, qbh, qau, qak, qae, qaf, qaw, qb6, qbv, qbe, qbx, qbd, qca, qbj, qb8, qc5, qcb, qbw, qbk, qa0, qb9, qbf, qay, qdl, qcc, qc9, qc3, qbi, qao, qb5, qa7, qa5, qaq, qah, qan, qa4, qa3, qas, qai, qad, qac, qab, qb0, qa2, qbn, qbz, qby, qa8, List.take_length, List.map_nil, List.drop_zero, List.drop_succ_cons, Nat.zero_add, Nat.add_zero, qba, qbb, qc6, qbm, qbl, qc8, qb4, qb7, qax, qa1, qar, qda, qbt, qdd, qcq, qal, qam, qag, qav, cond_true, cond_false, qc0, qdb, qc4, qdf, qdm, qcd, qdy, qde, qdc, ofA2, ofA3, ofA4, ofA6, packD, List.take_left, List.length_append, List.length_cons, List.length_nil, List.length_set, shutL_st]
        rfl
      rw [qd6, hstep]
      simp only [Option.bind_some, Sum.elim_inl]
      rw [ih (i + 1) _ _ (by omega), d1, d2, dec_cons he]
    · have hq : decide ((a[i].1, a[i].2) = (b[i].1, b[i].2)) = false := decide_eq_false he
      have hstep : f38_s0 (Run Try.prog codecH) (Dcall Try.prog codecH) A (Env.mk [.sl o 2 (stampsD a), .sl o' 2 (stampsD b), D.any, D.any, D.any, .int .i64 i, D.any, D.any, D.any, D.any, D.any, D.any, D.any, D.any, D.any, D.any, D.any, D.any, D.any, D.any, D.any, D.any, D.any, D.any, D.any, D.any] []) A = some (.inr (.ret (.bool false), A)) := by
        unfold f38_s0
        (repeat (first | (first | with_reducible refine qdh ?_ | with_reducible refine qdj ?_ | with_reducible refine qdk ?_ | with_reducible refine qdt ?_ | with_reducible refine qdi ?_ | with_reducible refine qbr ?_ | with_reducible refine qc2 ?_ | with_reducible refine qa9 ?_ | with_reducible refine qdw ?_ | with_reducible refine qdx ?_ | with_reducible refine qdr ?_ | with_reducible refine qds ?_ | with_reducible refine qdv ?_ | with_reducible refine qdu ?_ | with_reducible refine qc1 ?_) | ((conv => lhs; arg 1; simp (disch := first | omega | assumption) only [qc7, qdg, qb1, qbc, qap, qb2, qce, Sum.elim_inl, Sum.elim_inr, Option.map_some, Option.map_none, Option.bind_some, Option.bind_none, Option.bind_eq_bind, qd0, qdz, qcz, qcr, qct, qcu, qcv, qcw, qcx, qcy, qcs, shl8, or8, shr8, qbu, qbs, qbp, qcn, qbo, qb3, qcp, qco, qbq, qa6, qaz, qat, qaj, qdq, qdo, qdn, qdp, qcf, qcg, qch, qci, qcj, qck, qcl, qcm, qd3, qd4, qd1, qd2, qaa, qbg, qbh, qau, qak, qae, qaf, qaw, qb6, qbv, qbe, qbx, qbd, qca, qbj, qb8, qc5, qcb, qbw, qbk, qa0, qb9, qbf, qay, qdl, qcc, qc9, qc3, qbi, qao, qb5, qa7, qa5, qaq, qah, qan, qa4, qa3, qas, qai, qad, qac, qab, qb0, qa2, qbn, qbz, qby, qa8, List.take_length, List.map_nil, List.drop_zero, List.drop_succ_cons, Nat.zero_add, Nat.add_zero, qba, qbb, qc6, qbm, qbl, qc8, qb4, qb7, qax, qa1, qar, qda, qbt, qdd, qcq, qal, qam, qag, qav, cond_true, cond_false, qc0, qdb, qc4, qdf, qdm, qcd, qdy, qde, qdc, ofA2, ofA3, ofA4, ofA6, packD, List.take_left, List.length_append, List.length_cons, List.length_nil, List.length_set, index_st, neq_st, hq, Bool.not_false, stampsD_length]); (first | with_reducible refine qdh ?_ | with_reducible refine qdj ?_ | with_reducible refine qdk ?_ | with_reducible refine qdt ?_ | with_reducible refine qdi ?_ | with_reducible refine qbr ?_ | with_reducible refine qc2 ?_ | with_reducible refine qa9 ?_ | with_reducible refine qdw ?_ | with_reducible refine qdx ?_ | with_reducible refine qdr ?_ | with_reducible refine qds ?_ | with_reducible refine qdv ?_ | with_reducible refine qdu ?_ | with_reducible refine qc1 ?_))))
        simp (disch := first | omega | assumption) only [qc7, qdg, qb1, qbc, qap, qb2, qce, Sum.elim_inl, Sum.elim_inr, Option.map_some, Option.map_none, Option.bind_some, Option.bind_none, Option.bind_eq_bind, qd0, qdz, qcz, qcr, qct, qcu, qcv, qcw, qcx, qcy, qcs, shl8, or8, shr8, qbu, qbs, qbp, qcn, qbo, qb3, qcp, qco, qbq, qa6, qaz, qat, qaj, qdq, qdo, qdn, qdp, qcf, qcg, qch, qci, qcj, qck, qcl, qcm, qd3, qd4, qd1, qd2, qaa, qbg, qbh, qau, qak, qae, qaf, qaw, qb6, qbv, qbe, qbx, qbd, qca, qbj, qb8, qc5, qcb, qbw, qbk, qa0, qb9, qbf, qay, qdl, qcc, qc9, qc3, qbi, qao, qb5, qa7, qa5, qaq, qah, qan, qa4, qa3, qas, qai, qad, qac, qab, qb0, qa2, qbn, qbz, qby, qa8, List.take_length, List.map_nil, List.drop_zero, List.drop_succ_cons, Nat.zero_add, Nat.add_zero, qba, qbb, qc6, qbm, qbl, qc8, qb4, qb7, qax, qa1, qar, qda, qbt, qdd, qcq, qal, qam, qag, qav, cond_true, cond_false, qc0, qdb, qc4, qdf, qdm, qcd, qdy, qde, qdc, ofA2, ofA3, ofA4, ofA6, packD, List.take_left, List.length_append, List.length_cons, List.length_nil, List.length_set]
      rw [qd6, hstep, d1, d2, dec_cons_ne he]
      rfl
theorem s38 (A : St) (a b : Stamps) (hl : a.length ≤ 9223372036854775807) (o o' : Own) : Run Try.prog codecH 38 [.sl o 2 (stampsD a), .sl o' 2 (stampsD b)] A = some (.ret (.bool (decide (a = b))), A) := by
  rw [r38]
  unfold f38
  by_cases hab : a.length = b.length
  · have := s38_loop A a b hab hl a.length 0 o o' (by omega)
    simp (disch := omega) only [qc7, qdg, qb1, qbc, qap, qb2, qce, Sum.elim_inl, Sum.elim_inr, Option.map_some, Option.map_none, Option.bind_some, Option.bind_none, Option.bind_eq_bind, qd0, qdz, qcz, qcr, qct, qcu, qcv, qcw, qcx, qcy, qcs, shl8, or8, shr8, qbu, qbs, qbp, qcn, qbo, qb3, qcp, qco, qbq, qa6, qaz, qat, qaj, qdq, qdo, qdn, qdp, qcf, qcg, qch, qci, qcj, qck, qcl, qcm, qd3, qd4, qd1, qd2, qaa, qbg, qbh, qau, qak, qae, qaf, qaw, qb6, qbv, qbe, qbx, qbd, qca, qbj, qb8, qc5, qcb, qbw, qbk, qa0, qb9, qbf, qay, qdl, qcc, qc9, qc3, qbi, qao, qb5, qa7, qa5, qaq, qah, qan, qa4, qa3, qas, qai, qad, qac, qab, qb0, qa2, qbn, qbz, qby, qa8, List.take_length, List.map_nil, List.drop_zero, List.drop_succ_cons, Nat.zero_add, Nat.add_zero, qba, qbb, qc6, qbm, qbl, qc8, qb4, qb7, qax, qa1, qar, qda, qbt, qdd, qcq, qal, qam, qag, qav, cond_true, cond_false, qc0, qdb, qc4, qdf, qdm, qcd, qdy, qde, qdc, ofA2, ofA3, ofA4, ofA6, packD, List.take_left, List.length_append, List.length_cons, List.length_nil, List.length_set, stampsD_length]
    exact this
  · simp (disch := omega) only [qc7, qdg, qb1, qbc, qap, qb2, qce, Sum.elim_inl, Sum.elim_inr, Option.map_some, Option.map_none, Option.bind_some, Option.bind_none, Option.bind_eq_bind, qd0, qdz, qcz, qcr, qct, qcu, qcv, qcw, qcx, qcy, qcs, shl8, or8, shr8, qbu, qbs, qbp, qcn, qbo, qb3, qcp, qco, qbq, qa6, qaz, qat, qaj, qdq, qdo, qdn, qdp, qcf, qcg, qch, qci, qcj, qck, qcl, qcm, qd3, qd4, qd1, qd2, qaa, qbg, qbh, qau, qak, qae, qaf, qaw, qb6, qbv, qbe, qbx, qbd, qca, qbj, qb8, qc5, qcb, qbw, qbk, qa0, qb9, qbf, qay, qdl, qcc, qc9, qc3, qbi, qao, qb5, qa7, qa5, qaq, qah, qan, qa4, qa3, qas, qai, qad, qac, qab, qb0, qa2, qbn, qbz, qby, qa8, List.take_length, List.map_nil, List.drop_zero, List.drop_succ_cons, Nat.zero_add, Nat.add_zero, qba, qbb, qc6, qbm, qbl, qc8, qb4, qb7, qax, qa1, qar, qda, qbt, qdd, qcq, qal, qam, qag, qav, cond_true, cond_false, qc0, qdb, qc4, qdf, qdm, qcd, qdy, qde, qdc, ofA2, ofA3, ofA4, ofA6, packD, List.take_left, List.length_append, List.length_cons, List.length_nil, List.length_set, stampsD_length]
    have : decide (a = b) = false := by
      apply decide_eq_false
      rintro rfl
      exact hab rfl
    rw [this]
theorem neq_str (n : Nat) (l : Bool) (a b : List UInt8) : binO .neq n l (.str a) (.str b) = some (.bool (!decide (a = b))) := by
  have : binO .neq n l (.str a) (.str b) = some (.bool (!(a == b))) := by simp [binO, strBinD]
  rw [this]
  congr 3
  by_cases h : a = b <;> simp [h]
end Go.Vm.Codec
