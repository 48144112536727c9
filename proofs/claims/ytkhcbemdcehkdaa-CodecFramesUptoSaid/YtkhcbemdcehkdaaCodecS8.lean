/- A hello is written and read. -/
import Derived.Test.YtkhcbemdcehkdaaCodecS7
set_option linter.all false
namespace Go.Vm.Codec
open Go.Proofs
set_option linter.unusedVariables false
set_option linter.unusedSimpArgs false
set_option maxRecDepth 10000
set_option maxHeartbeats 2000000

def hello : List UInt8 := [70, 1, 0, 0, 0, 5, 0, 0, 0, 0, 0, 0, 0, 0, 0, 0, 0, 0, 0, 0, 0, 0, 0, 0, 0, 0, 0, 0, 0, 0]
theorem hello_eq : frameBytes 1 5 0 0 0 [] = hello := by decide
theorem s14 (A : St) : Run Try.prog codecH 14 [] A = some (.ret (.bool true), A) := by
  rw [r14]
  unfold f14
  have h9 := s9 1 5 0 0 0 (by omega) (by omega) (by omega) (by omega) (by omega) [] .full 0 rfl A (by simp)
  rw [hello_eq] at h9
  have q9 : Run Try.prog codecH 9 [.agg [.int .u8 1, .int .u32 5, .int .u32 0, .int .u64 0, .int .u64 0, .sl .full 0 []]] A = some (.ret (.tup [.sl .sh 1 (strBytes hello), .int .i64 0]), A) := h9
  have h11 := s11_ok A .sh rfl hello (by decide) (by decide) (by decide) (by decide)
  have q11 : Run Try.prog codecH 11 [.sl .sh 1 (strBytes hello)] A = some (.ret (.tup [.agg [.int .u8 1, .int .u32 5, .int .u32 0, .int .u64 0, .int .u64 0, .sl .full 1 []], .int .i64 0, .int .i64 0]), A) := by
    rw [h11]
    rfl
  have i0 : indexAddrO 1 false (.sl .sh 1 (strBytes hello)) (.int .i64 0) = some (.peek [.int .u8 70]) := rfl
  have i1 : indexAddrO 1 false (.sl .sh 1 (strBytes hello)) (.int .i64 1) = some (.peek [.int .u8 1]) := rfl
  have i5 : indexAddrO 1 false (.sl .sh 1 (strBytes hello)) (.int .i64 5) = some (.peek [.int .u8 5]) := rfl
  have hl : (hello.length : Int) = 30 := rfl
  have hs : storeO true 6 (.ref A.length 0) (.agg [.int .u8 1, .int .u32 5, .int .u32 0, .int .u64 0, .int .u64 0, .sl .full 1 []]) (A ++ [.cells [.int .u8 0, .int .u32 0, .int .u32 0, .int .u64 0, .int .u64 0, .sl .full 0 []]]) =
      some (A ++ [.cells [.int .u8 1, .int .u32 5, .int .u32 0, .int .u64 0, .int .u64 0, .sl .full 1 []]]) := by
    rw [storeA (cs := [.int .u8 0, .int .u32 0, .int .u32 0, .int .u64 0, .int .u64 0, .sl .full 0 []]) (by rw [get_app _ _ _ 0 (by omega)]; rfl) rfl rfl rfl, set_app _ _ 0 _ _ (by omega)]
    rfl
  have hld : ∀ off, loadO false 1 (.ref A.length off) (A ++ [.cells [.int .u8 1, .int .u32 5, .int .u32 0, .int .u64 0, .int .u64 0, .sl .full 1 []]]) = ofCells false [.int .u8 1, .int .u32 5, .int .u32 0, .int .u64 0, .int .u64 0, .sl .full 1 []] off 1 :=
    fun off => load_ref (by rw [get_app _ _ _ 0 (by omega)]; rfl)
  (repeat (first | (first | with_reducible refine st_some ?_ | with_reducible refine st_bnbn ?_ | with_reducible refine st_bind ?_ | with_reducible refine st_map ?_ | with_reducible refine st_bnif ?_ | with_reducible refine qde ?_ | with_reducible refine qdg ?_ | with_reducible refine qcz ?_ | with_reducible refine st_ift ?_ | with_reducible refine st_iff ?_ | with_reducible refine st_ret ?_ | with_reducible refine st_pan ?_ | with_reducible refine st_inl ?_ | with_reducible refine st_inr ?_ | with_reducible refine qdf ?_) | ((conv => lhs; arg 1; simp (disch := first | omega | assumption) only [qc2, qdd, qbz, qbb, qap, qb0, qcc, Sum.elim_inl, Sum.elim_inr, Option.map_some, Option.map_none, Option.bind_some, Option.bind_none, Option.bind_eq_bind, getD0, getDs, qcx, qcp, qcr, qcs, qct, qcu, qcv, qcw, qcq, shl8, or8, shr8, qbs, qbq, qbo, qcl, qbn, qb1, qcn, qcm, qbp, qa6, qaz, qat, qaj, qdm, qdk, qdj, qdl, qcd, qce, qcf, qcg, qch, qci, qcj, qck, beq_t, beq_f, bne_t, bne_f, qaa, qbf, qbg, qau, qak, qaf, qac, qaw, qb4, qbt, qbd, qbv, qbc, qb8, qbi, qb6, qc0, qb9, qbu, qbj, qa0, qb7, qbe, qay, qdh, qca, qc5, qc1, qbh, qao, qb3, qa7, qa5, qaq, qah, qan, qa4, qa3, qas, qai, qae, qad, qab, qby, qa2, qbm, qbx, qbw, qa8, List.take_length, List.map_nil, List.drop_zero, List.drop_succ_cons, Nat.zero_add, Nat.add_zero, qa9, qba, qc4, qbl, qbk, qc3, qb2, qb5, qax, qa1, qar, qc6, qbr, qda, qco, qal, qam, qag, qav, cond_true, cond_false, qcy, qc8, qc7, qdc, qdi, qcb, lay_s, qdb, qc9, ofA2, ofA3, ofA4, ofA6, packD, List.take_left, List.length_append, List.length_cons, List.length_nil, List.length_set, q9, q11, extract0, extract1, extract2, i0, i1, i5, hl, hs, hld]); (first | with_reducible refine st_some ?_ | with_reducible refine st_bnbn ?_ | with_reducible refine st_bind ?_ | with_reducible refine st_map ?_ | with_reducible refine st_bnif ?_ | with_reducible refine qde ?_ | with_reducible refine qdg ?_ | with_reducible refine qcz ?_ | with_reducible refine st_ift ?_ | with_reducible refine st_iff ?_ | with_reducible refine st_ret ?_ | with_reducible refine st_pan ?_ | with_reducible refine st_inl ?_ | with_reducible refine st_inr ?_ | with_reducible refine qdf ?_))))
  simp only [qc2, qdd, qbz, qbb, qap, qb0, qcc, Sum.elim_inl, Sum.elim_inr, Option.map_some, Option.map_none, Option.bind_some, Option.bind_none, Option.bind_eq_bind, getD0, getDs, qcx, qcp, qcr, qcs, qct, qcu, qcv, qcw, qcq, shl8, or8, shr8, qbs, qbq, qbo, qcl, qbn, qb1, qcn, qcm, qbp, qa6, qaz, qat, qaj, qdm, qdk, qdj, qdl, qcd, qce, qcf, qcg, qch, qci, qcj, qck, beq_t, beq_f, bne_t, bne_f, qaa, qbf, qbg, qau, qak, qaf, qac, qaw, qb4, qbt, qbd, qbv, qbc, qb8, qbi, qb6, qc0, qb9, qbu, qbj, qa0, qb7, qbe, qay, qdh, qca, qc5, qc1, qbh, qao, qb3, qa7, qa5, qaq, qah, qan, qa4, qa3, qas, qai, qae, qad, qab, qby, qa2, qbm, qbx, qbw, qa8, List.take_length, List.map_nil, List.drop_zero, List.drop_succ_cons, Nat.zero_add, Nat.add_zero, qa9, qba, qc4, qbl, qbk, qc3, qb2, qb5, qax, qa1, qar, qc6, qbr, qda, qco, qal, qam, qag, qav, cond_true, cond_false, qcy, qc8, qc7, qdc, qdi, qcb, lay_s, qdb, qc9, ofA2, ofA3, ofA4, ofA6, packD, List.take_left, List.length_append, List.length_cons, List.length_nil, List.length_set]
end Go.Vm.Codec
