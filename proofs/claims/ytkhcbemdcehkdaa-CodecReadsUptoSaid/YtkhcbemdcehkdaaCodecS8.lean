/- A hello is written and read. -/
import Derived.Test.YtkhcbemdcehkdaaCodecS7
set_option linter.all false
namespace Go.Vm.Codec
open Go.Proofs
set_option linter.unusedVariables false
set_option linter.unusedSimpArgs false
set_option maxRecDepth 10000
set_option maxHeartbeats 2000000

def hello : List UInt8 := [70, 1, 0, 0, 0, 5, 0, 0, 0, 0, 0, 0, 0, 0, 0, 0, 0, 0, 0, 0, 0, 0, 0, 0, 0, 0, 0, 0, 0, 0]
theorem hello_eq : frameBytes 1 5 0 0 0 [] = hello := by decide
theorem s14 (A : St) : Run Try.prog codecH 14 [] A = some (.ret (.bool true), A) := by
  rw [r14]
  unfold f14
  have h9 := s9 1 5 0 0 0 (by omega) (by omega) (by omega) (by omega) (by omega) [] .full 0 rfl A (by simp)
  rw [hello_eq] at h9
  have q9 : Run Try.prog codecH 9 [.agg [.int .u8 1, .int .u32 5, .int .u32 0, .int .u64 0, .int .u64 0, .sl .full 0 []]] A = some (.ret (.tup [.sl .sh 1 (strBytes hello), .int .i64 0]), A) := h9
  have h11 := s11_ok A .sh rfl hello (by decide) (by decide) (by decide) (by decide)
  have q11 : Run Try.prog codecH 11 [.sl .sh 1 (strBytes hello)] A = some (.ret (.tup [.agg [.int .u8 1, .int .u32 5, .int .u32 0, .int .u64 0, .int .u64 0, .sl .full 1 []], .int .i64 0, .int .i64 0]), A) := by
    rw [h11]
    rfl
  have i0 : indexAddrO 1 false (.sl .sh 1 (strBytes hello)) (.int .i64 0) = some (.peek [.int .u8 70]) := rfl
  have i1 : indexAddrO 1 false (.sl .sh 1 (strBytes hello)) (.int .i64 1) = some (.peek [.int .u8 1]) := rfl
  have i5 : indexAddrO 1 false (.sl .sh 1 (strBytes hello)) (.int .i64 5) = some (.peek [.int .u8 5]) := rfl
  have hl : (hello.length : Int) = 30 := rfl
  have hs : storeO true 6 (.ref A.length 0) (.agg [.int .u8 1, .int .u32 5, .int .u32 0, .int .u64 0, .int .u64 0, .sl .full 1 []]) (A ++ [.cells [.int .u8 0, .int .u32 0, .int .u32 0, .int .u64 0, .int .u64 0, .sl .full 0 []]]) =
      some (A ++ [.cells [.int .u8 1, .int .u32 5, .int .u32 0, .int .u64 0, .int .u64 0, .sl .full 1 []]]) := by
    rw [storeA (cs := [.int .u8 0, .int .u32 0, .int .u32 0, .int .u64 0, .int .u64 0, .sl .full 0 []]) (by rw [get_app _ _ _ 0 (by omega)]; rfl) rfl rfl rfl, set_app _ _ 0 _ _ (by omega)]
    rfl
  have hld : ∀ off, loadO false 1 (.ref A.length off) (A ++ [.cells [.int .u8 1, .int .u32 5, .int .u32 0, .int .u64 0, .int .u64 0, .sl .full 1 []]]) = ofCells false [.int .u8 1, .int .u32 5, .int .u32 0, .int .u64 0, .int .u64 0, .sl .full 1 []] off 1 :=
    fun off => load_ref (by rw [get_app _ _ _ 0 (by omega)]; rfl)
  (repeat (first | (first | with_reducible refine qdh ?_ | with_reducible refine qdj ?_ | with_reducible refine qdk ?_ | with_reducible refine qdt ?_ | with_reducible refine qdi ?_ | with_reducible refine qbr ?_ | with_reducible refine qc2 ?_ | with_reducible refine qa9 ?_ | with_reducible refine qdw ?_ | with_reducible refine qdx ?_ | with_reducible refine qdr ?_ | with_reducible refine qds ?_ | with_reducible refine qdv ?_ | with_reducible refine qdu ?_ | with_reducible refine qc1 ?_) | ((conv => lhs; arg 1; simp (disch := first | omega | assumption) only [qc7, qdg, qb1, qbc, qap, qb2, qce, Sum.elim_inl, Sum.elim_inr, Option.map_some, Option.map_none, Option.bind_some, Option.bind_none, Option.bind_eq_bind, qd0, qdz, qcz, qcr, qct, qcu, qcv, qcw, qcx, qcy, qcs, shl8, or8, shr8, qbu, qbs, qbp, qcn, qbo, qb3, qcp, qco, qbq, qa6, qaz, qat, qaj, qdq, qdo, qdn, qdp, qcf, qcg, qch, qci, qcj, qck, qcl, qcm, qd3, qd4, qd1, qd2, qaa, qbg, qbh, qau, qak, qae, qaf, qaw, qb6, qbv, qbe, qbx, qbd, qca, qbj, qb8, qc5, qcb, qbw, qbk, qa0, qb9, qbf, qay, qdl, qcc, qc9, qc3, qbi, qao, qb5, qa7, qa5, qaq, qah, qan, qa4, qa3, qas, qai, qad, qac, qab, qb0, qa2, qbn, qbz, qby, qa8, List.take_length, List.map_nil, List.drop_zero, List.drop_succ_cons, Nat.zero_add, Nat.add_zero, qba, qbb, qc6, qbm, qbl, qc8, qb4, qb7, qax, qa1, qar, qda, qbt, qdd, qcq, qal, qam, qag, qav, cond_true, cond_false, qc0, qdb, qc4, qdf, qdm, qcd, qdy, qde, qdc, ofA2, ofA3, ofA4, ofA6, packD, List.take_left, List.length_append, List.length_cons, List.length_nil, List.length_set, q9, q11, extract0, extract1, extract2, i0, i1, i5, hl, hs, hld]); (first | with_reducible refine qdh ?_ | with_reducible refine qdj ?_ | with_reducible refine qdk ?_ | with_reducible refine qdt ?_ | with_reducible refine qdi ?_ | with_reducible refine qbr ?_ | with_reducible refine qc2 ?_ | with_reducible refine qa9 ?_ | with_reducible refine qdw ?_ | with_reducible refine qdx ?_ | with_reducible refine qdr ?_ | with_reducible refine qds ?_ | with_reducible refine qdv ?_ | with_reducible refine qdu ?_ | with_reducible refine qc1 ?_))))
  simp only [qc7, qdg, qb1, qbc, qap, qb2, qce, Sum.elim_inl, Sum.elim_inr, Option.map_some, Option.map_none, Option.bind_some, Option.bind_none, Option.bind_eq_bind, qd0, qdz, qcz, qcr, qct, qcu, qcv, qcw, qcx, qcy, qcs, shl8, or8, shr8, qbu, qbs, qbp, qcn, qbo, qb3, qcp, qco, qbq, qa6, qaz, qat, qaj, qdq, qdo, qdn, qdp, qcf, qcg, qch, qci, qcj, qck, qcl, qcm, qd3, qd4, qd1, qd2, qaa, qbg, qbh, qau, qak, qae, qaf, qaw, qb6, qbv, qbe, qbx, qbd, qca, qbj, qb8, qc5, qcb, qbw, qbk, qa0, qb9, qbf, qay, qdl, qcc, qc9, qc3, qbi, qao, qb5, qa7, qa5, qaq, qah, qan, qa4, qa3, qas, qai, qad, qac, qab, qb0, qa2, qbn, qbz, qby, qa8, List.take_length, List.map_nil, List.drop_zero, List.drop_succ_cons, Nat.zero_add, Nat.add_zero, qba, qbb, qc6, qbm, qbl, qc8, qb4, qb7, qax, qa1, qar, qda, qbt, qdd, qcq, qal, qam, qag, qav, cond_true, cond_false, qc0, qdb, qc4, qdf, qdm, qcd, qdy, qde, qdc, ofA2, ofA3, ofA4, ofA6, packD, List.take_left, List.length_append, List.length_cons, List.length_nil, List.length_set]
end Go.Vm.Codec
