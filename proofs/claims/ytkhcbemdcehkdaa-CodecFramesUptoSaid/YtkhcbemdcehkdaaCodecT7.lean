/- ReadFrame over data, in one; two frames that are the same. -/
import Derived.Test.YtkhcbemdcehkdaaCodecP2
import Derived.Test.YtkhcbemdcehkdaaCodecS8
set_option linter.all false
namespace Go.Vm.Codec
open Go.Proofs
set_option linter.unusedVariables false
set_option linter.unusedSimpArgs false
set_option maxRecDepth 10000
set_option maxHeartbeats 4000000
def Fr.D (x : Fr) (o : Own) : Vm.D := frameD x.k x.f x.t x.s x.a o 1 x.body
def Fr.C (x : Fr) (o : Own) : List Vm.D := [.int .u8 x.k, .int .u32 x.f, .int .u32 x.t, .int .u64 x.s, .int .u64 x.a, .sl o 1 (strBytes x.body)]
def bow (l : List UInt8) : Own := if l.isEmpty then .full else .sh
def frT : Except (Nat × Int) Fr → D
  | .ok x => .tup [x.D (bow x.body), .int .i64 0, .int .i64 0]
  | .error (p, e) => .tup [zeroFD, .int .i64 p, .int .i64 e]
theorem s11 (A : St) (o : Own) (ho : o.shut A.length = o) (b : List UInt8) (hb : b.length ≤ 140737488355328) : Run Try.prog codecH 11 [.sl o 1 (strBytes b)] A = some (.ret (frT (pFr b)), A) := by
  unfold pFr
  by_cases h0 : 0 < b.length
  · by_cases hF : b[0] = 70
    · rw [if_neg (by simp [List.getElem?_eq_getElem h0, hF])]
      by_cases h30 : b.length < 30
      · rw [if_pos h30, s11_short A o b h0 hF h30]; rfl
      · rw [if_neg h30]
        by_cases hn : num ((b.drop 26).take 4) ≤ 65536
        · rw [if_neg (Decidable.not_not.2 hn)]
          by_cases hl : b.length < 30 + num ((b.drop 26).take 4)
          · rw [if_pos hl, s11_less A o ho b (by omega) hF hn hl]; rfl
          · rw [if_neg hl]
            by_cases hm : 30 + num ((b.drop 26).take 4) < b.length
            · rw [if_pos hm, s11_more A o ho b hb (by omega) hF hn hm]; rfl
            · rw [if_neg hm, s11_ok A o ho b (by omega) hF hn (by omega)]
              have hk := num_lt ((b.drop 1).take 1)
              have hk1 : ((b.drop 1).take 1).length = 1 := by rw [List.length_take, List.length_drop]; omega
              rw [hk1] at hk
              have e : (num ((b.drop 1).take 1)).toUInt8.toNat = num ((b.drop 1).take 1) := by
                have : (num ((b.drop 1).take 1)).toUInt8.toNat = num ((b.drop 1).take 1) % 256 := by simp
                omega
              simp only [e]
              rfl
        · rw [if_pos hn, s11_much A o ho b (by omega) (by omega) hF hn]; rfl
    · rw [if_pos (by simp [List.getElem?_eq_getElem h0, hF]), s11_head A o b h0 hF (by omega)]; rfl
  · obtain rfl : b = [] := List.length_eq_zero_iff.1 (by omega)
    rw [if_pos (by simp), s11_empty A o]; rfl
theorem ld0 (A : St) (cs : List D) (T : St) (g : Bool) (n off : Nat) : loadO g n (.ref A.length off) (A ++ (.cells cs :: T)) = ofCells g cs off n := load_ref (by rw [get_app _ _ _ 0 (by omega)]; rfl)
theorem ld1 (A : St) (s0 : Slot) (cs : List D) (T : St) (g : Bool) (n off : Nat) : loadO g n (.ref (A.length + 1) off) (A ++ (s0 :: .cells cs :: T)) = ofCells g cs off n := load_ref (by rw [get_app _ _ _ 1 (by omega)]; rfl)
theorem ld2 (A : St) (s0 s1 : Slot) (cs : List D) (T : St) (g : Bool) (n off : Nat) : loadO g n (.ref (A.length + 2) off) (A ++ (s0 :: s1 :: .cells cs :: T)) = ofCells g cs off n := load_ref (by rw [get_app _ _ _ 2 (by omega)]; rfl)
theorem eql_n (n : Nat) (l : Bool) (k : IntKind) (x : Int) : binO .eql n l (.int k x) (.int k x) = some (.bool true) := by
  simp [binO, eqOf, D.int?, intBinD, negIf]
theorem eql_same (n : Nat) (l : Bool) (a : List UInt8) : binO .eql n l (.str a) (.str a) = some (.bool true) := by
  simp [binO, strBinD]
theorem s13_same (A : St) (x : Fr) (o o' : Own) : Run Try.prog codecH 13 [x.D o, x.D o'] A = some (.ret (.bool true), A) := by
  rw [r13]
  unfold f13
  have hbx : ∀ o A, boxO true (x.D o) A = some (.ref A.length 0, A ++ [.cells (x.C o)]) := fun o A => box_agg A rfl
  (repeat (first | (first | with_reducible refine st_some ?_ | with_reducible refine st_bnbn ?_ | with_reducible refine st_bind ?_ | with_reducible refine st_map ?_ | with_reducible refine st_bnif ?_ | with_reducible refine qde ?_ | with_reducible refine qdg ?_ | with_reducible refine qcz ?_ | with_reducible refine st_ift ?_ | with_reducible refine st_iff ?_ | with_reducible refine st_ret ?_ | with_reducible refine st_pan ?_ | with_reducible refine st_inl ?_ | with_reducible refine st_inr ?_ | with_reducible refine qdf ?_) | ((conv => lhs; arg 1; simp (disch := first | omega | assumption) only [qc2, qdd, qbz, qbb, qap, qb0, qcc, Sum.elim_inl, Sum.elim_inr, Option.map_some, Option.map_none, Option.bind_some, Option.bind_none, Option.bind_eq_bind, getD0, getDs, qcx, qcp, qcr, qcs, qct, qcu, qcv, qcw, qcq, shl8, or8, shr8, qbs, qbq, qbo, qcl, qbn, qb1, qcn, qcm, qbp, qa6, qaz, qat, qaj, qdm, qdk, qdj, qdl, qcd, qce, qcf, qcg, qch, qci, qcj, qck, beq_t, beq_f, bne_t, bne_f, qaa, qbf, qbg, qau, qak, qaf, qac, qaw, qb4, qbt, qbd, qbv, qbc, qb8, qbi, qb6, qc0, qb9, qbu, qbj, qa0, qb7, qbe, qay, qdh, qca, qc5, qc1, qbh, qao, qb3, qa7, qa5, qaq, qah, qan, qa4, qa3, qas, qai, qae, qad, qab, qby, qa2, qbm, qbx, qbw, qa8, List.take_length, List.map_nil, List.drop_zero, List.drop_succ_cons, Nat.zero_add, Nat.add_zero, qa9, qba, qc4, qbl, qbk, qc3, qb2, qb5, qax, qa1, qar, qc6, qbr, qda, qco, qal, qam, qag, qav, cond_true, cond_false, qcy, qc8, qc7, qdc, qdi, qcb, lay_s, qdb, qc9, ofA2, ofA3, ofA4, ofA6, packD, List.take_left, List.length_append, List.length_cons, List.length_nil, List.length_set, hbx, List.append_assoc, List.cons_append, List.nil_append, ld0, ld1, Fr.C, eql_n, eql_same]); (first | with_reducible refine st_some ?_ | with_reducible refine st_bnbn ?_ | with_reducible refine st_bind ?_ | with_reducible refine st_map ?_ | with_reducible refine st_bnif ?_ | with_reducible refine qde ?_ | with_reducible refine qdg ?_ | with_reducible refine qcz ?_ | with_reducible refine st_ift ?_ | with_reducible refine st_iff ?_ | with_reducible refine st_ret ?_ | with_reducible refine st_pan ?_ | with_reducible refine st_inl ?_ | with_reducible refine st_inr ?_ | with_reducible refine qdf ?_))))
  simp only [qc2, qdd, qbz, qbb, qap, qb0, qcc, Sum.elim_inl, Sum.elim_inr, Option.map_some, Option.map_none, Option.bind_some, Option.bind_none, Option.bind_eq_bind, getD0, getDs, qcx, qcp, qcr, qcs, qct, qcu, qcv, qcw, qcq, shl8, or8, shr8, qbs, qbq, qbo, qcl, qbn, qb1, qcn, qcm, qbp, qa6, qaz, qat, qaj, qdm, qdk, qdj, qdl, qcd, qce, qcf, qcg, qch, qci, qcj, qck, beq_t, beq_f, bne_t, bne_f, qaa, qbf, qbg, qau, qak, qaf, qac, qaw, qb4, qbt, qbd, qbv, qbc, qb8, qbi, qb6, qc0, qb9, qbu, qbj, qa0, qb7, qbe, qay, qdh, qca, qc5, qc1, qbh, qao, qb3, qa7, qa5, qaq, qah, qan, qa4, qa3, qas, qai, qae, qad, qab, qby, qa2, qbm, qbx, qbw, qa8, List.take_length, List.map_nil, List.drop_zero, List.drop_succ_cons, Nat.zero_add, Nat.add_zero, qa9, qba, qc4, qbl, qbk, qc3, qb2, qb5, qax, qa1, qar, qc6, qbr, qda, qco, qal, qam, qag, qav, cond_true, cond_false, qcy, qc8, qc7, qdc, qdi, qcb, lay_s, qdb, qc9, ofA2, ofA3, ofA4, ofA6, packD, List.take_left, List.length_append, List.length_cons, List.length_nil, List.length_set]
end Go.Vm.Codec
