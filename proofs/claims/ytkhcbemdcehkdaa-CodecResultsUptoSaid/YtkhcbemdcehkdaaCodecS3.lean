/- The bytes of a frame: what both writers come to. -/
import Derived.Test.YtkhcbemdcehkdaaCodecS2
set_option linter.all false
namespace Go.Vm.Codec
open Go.Proofs
set_option linter.unusedVariables false
set_option linter.unusedSimpArgs false
set_option maxRecDepth 10000
set_option maxHeartbeats 1000000

def frameD (k f t s a : Nat) (o : Own) (es : Nat) (body : List UInt8) : D := .agg [.int .u8 k, .int .u32 f, .int .u32 t, .int .u64 s, .int .u64 a, .sl o es (strBytes body)]
def frameBytes (k f t s a : Nat) (body : List UInt8) : List UInt8 := [70, k.toUInt8] ++ beL 4 [f, t] ++ beL 8 [s, a] ++ beL 4 [body.length] ++ body
theorem beL_length (n : Nat) (l : List Nat) : (beL n l).length = n * l.length := by
  induction l with
  | nil => rfl
  | cons a l ih => simp only [beL, List.flatMap_cons, List.length_append, be_length, List.length_cons] at ih ⊢; rw [ih, Nat.mul_succ, Nat.add_comm]
theorem s9_long (k f t s a : Nat) (body : List UInt8) (o : Own) (es : Nat) (hes : esOk o es 1 (strBytes body) = true) (A : St) (hb : 65536 < body.length) :
    Run Try.prog codecH 9 [frameD k f t s a o es body] A = some (.ret (.tup [.sl .full 0 [], .int .i64 2]), A) := by
  rw [r9]
  unfold f9 frameD
  have h0 : (A ++ [Slot.cells [.int .u8 (k : Int), .int .u32 f, .int .u32 t, .int .u64 s, .int .u64 a, .sl o es (strBytes body)]])[A.length]? = some (.cells [.int .u8 k, .int .u32 f, .int .u32 t, .int .u64 s, .int .u64 a, .sl o es (strBytes body)]) := by simp
  simp (disch := first | omega | assumption | rfl) only [bn_some, bn_none, ifb_true, ifb_false, guardP_True, elim_ret, elim_pan, Sum.elim_inl, Sum.elim_inr, Option.map_some, Option.map_none, Option.bind_some, Option.bind_none, Option.bind_eq_bind, getD0, getDs, binO_add, binO_sub, binO_mul, binO_lss, binO_leq, binO_gtr, binO_geq, binO_eql, binO_neq, shl8, or8, shr8, wrap_i64, wrap_u64, conv_byte, conv_u8n, conv_u32n, conv_u64, conv_i64, conv_str, convBytes, convBytes0, bool?_bool, guardB_bool, guardB_undef, beq_ff, beq_tf, beq_tt, beq_ft, dec_lt_t, dec_lt_f, dec_le_t, dec_le_f, dec_gt_t, dec_gt_f, dec_ge_t, dec_ge_f, beq_t, beq_f, bne_t, bne_f, strBytes_length, parts_nil, parts_int, append1_own, append1_full, leave_own_old, leave_own_new, Kept_settok, take_set, take_app, shutL_str, shut_int, shut_bool, shut_any, shut_strD, shut_val, shut_sl, shut_agg, shut_tup, shut_peek, shut_iface, shut_ref, shutL_nil, shutL_cons, own_sh, own_full, own_own, own_new, Kept_refl, Kept_append, tok_shut, cells_shut, leave_keep, leave_trunc, Res_shut_ret, Res_shut_pan, leaves_nil, leaves_pan, leaves_cons, nilCheck_ref, nilCheck_peek, fieldAddr_ref, fieldAddr_peek, lenSl_sl, lenStr_str, load_peek, ofCells0, ofCellsS, index_str, List.take_length, List.map_nil, List.drop_zero, List.drop_succ_cons, Nat.zero_add, Nat.add_zero, wr_length, rd_length, rd_load, rd_store0, rd_store1, rd_take, Kept_rd2, slice_to, slice_from, shutL_nums, nums_length, cell_sl, cell_int, splice1, box_agg2, allCells_nil, allCells_int, allCells_bool, allCells_sl, cond_true, cond_false, alloc_eq, tok_lit, tok_nil, lay_int, lay_sl, lay_bool, lay_s, splice0, spliceS, ofA2, ofA3, ofA4, ofA6, packD, List.take_left, List.length_append, List.length_cons, List.length_nil, List.length_set, load_ref h0]
theorem s9 (k f t s a : Nat) (hk : k < 256) (hf : f < 4294967296) (ht : t < 4294967296) (hs : s < 18446744073709551616) (ha : a < 18446744073709551616) (body : List UInt8) (o : Own) (es : Nat) (hes : esOk o es 1 (strBytes body) = true) (A : St) (hb : body.length ≤ 65536) :
    Run Try.prog codecH 9 [frameD k f t s a o es body] A = some (.ret (.tup [.sl .sh 1 (strBytes (frameBytes k f t s a body)), .int .i64 0]), A) := by
  rw [r9]
  unfold f9 frameD
  have h0 : (A ++ [Slot.cells [.int .u8 (k : Int), .int .u32 f, .int .u32 t, .int .u64 s, .int .u64 a, .sl o es (strBytes body)]])[A.length]? = some (.cells [.int .u8 k, .int .u32 f, .int .u32 t, .int .u64 s, .int .u64 a, .sl o es (strBytes body)]) := by simp
  simp (disch := first | omega | assumption | rfl) only [bn_some, bn_none, ifb_true, ifb_false, guardP_True, elim_ret, elim_pan, Sum.elim_inl, Sum.elim_inr, Option.map_some, Option.map_none, Option.bind_some, Option.bind_none, Option.bind_eq_bind, getD0, getDs, binO_add, binO_sub, binO_mul, binO_lss, binO_leq, binO_gtr, binO_geq, binO_eql, binO_neq, shl8, or8, shr8, wrap_i64, wrap_u64, conv_byte, conv_u8n, conv_u32n, conv_u64, conv_i64, conv_str, convBytes, convBytes0, bool?_bool, guardB_bool, guardB_undef, beq_ff, beq_tf, beq_tt, beq_ft, dec_lt_t, dec_lt_f, dec_le_t, dec_le_f, dec_gt_t, dec_gt_f, dec_ge_t, dec_ge_f, beq_t, beq_f, bne_t, bne_f, strBytes_length, parts_nil, parts_int, append1_own, append1_full, leave_own_old, leave_own_new, Kept_settok, take_set, take_app, shutL_str, shut_int, shut_bool, shut_any, shut_strD, shut_val, shut_sl, shut_agg, shut_tup, shut_peek, shut_iface, shut_ref, shutL_nil, shutL_cons, own_sh, own_full, own_own, own_new, Kept_refl, Kept_append, tok_shut, cells_shut, leave_keep, leave_trunc, Res_shut_ret, Res_shut_pan, leaves_nil, leaves_pan, leaves_cons, nilCheck_ref, nilCheck_peek, fieldAddr_ref, fieldAddr_peek, lenSl_sl, lenStr_str, load_peek, ofCells0, ofCellsS, index_str, List.take_length, List.map_nil, List.drop_zero, List.drop_succ_cons, Nat.zero_add, Nat.add_zero, wr_length, rd_length, rd_load, rd_store0, rd_store1, rd_take, Kept_rd2, slice_to, slice_from, shutL_nums, nums_length, cell_sl, cell_int, splice1, box_agg2, allCells_nil, allCells_int, allCells_bool, allCells_sl, cond_true, cond_false, alloc_eq, tok_lit, tok_nil, lay_int, lay_sl, lay_bool, lay_s, splice0, spliceS, ofA2, ofA3, ofA4, ofA6, packD, List.take_left, List.length_append, List.length_cons, List.length_nil, List.length_set, load_ref h0]
  obtain ⟨B, hB⟩ : ∃ B, B = A ++ [Slot.cells [D.int IntKind.u8 (k : Int), D.int IntKind.u32 f, D.int IntKind.u32 t, D.int IntKind.u64 s, D.int IntKind.u64 a, D.sl o es (strBytes body)]] ++ [Slot.tok (1 + 1)] ++
      [Slot.cells [D.sl (Own.own (List.length A + 1) 0) 1 [D.int IntKind.u8 70, D.int IntKind.u8 (k : Int)]]] := ⟨_, rfl⟩
  rw [← hB]
  have hl : B.length = A.length + 3 := by rw [hB]; simp
  have hK : Kept A B := by rw [hB, List.append_assoc, List.append_assoc]; exact (Kept_append A _).2 trivial
  have hT : B.take A.length = A := by rw [hB, List.append_assoc, List.append_assoc]; exact List.take_left
  have hk' : (k.toUInt8.toNat : Int) = k := by simp [Nat.mod_eq_of_lt hk]
  have e70 : [D.int IntKind.u8 70, D.int IntKind.u8 (k : Int)] = strBytes [70, k.toUInt8] := by simp [strBytes, hk', Nat.mod_eq_of_lt hk]
  have g0 : B[A.length]? = some (.cells [D.int IntKind.u8 (k : Int), D.int IntKind.u32 f, D.int IntKind.u32 t, D.int IntKind.u64 s, D.int IntKind.u64 a, D.sl o es (strBytes body)]) := by rw [hB]; simp
  have g1 : B[A.length + 1]? = some (.tok [70, k.toUInt8].length) := by rw [hB]; simp [List.getElem?_append]
  have g2 : B[A.length + 1 + 1]? = some (.cells [.sl (.own (A.length + 1) 0) 1 (strBytes [70, k.toUInt8])]) := by rw [hB, ← e70, List.append_assoc, List.append_assoc, get_app _ _ _ 2 (by omega)]; rfl
  have hw : B = wr B (A.length + 1 + 1) (A.length + 1) [70, k.toUInt8] := (wr_self g2 g1).symm
  have ld : ∀ bs g n off, loadO g n (.ref A.length off) (wr B (A.length + 1 + 1) (A.length + 1) bs) = ofCells g [D.int IntKind.u8 (k : Int), D.int IntKind.u32 f, D.int IntKind.u32 t, D.int IntKind.u64 s, D.int IntKind.u64 a, D.sl o es (strBytes body)] off n :=
    fun bs g n off => load_ref (by rw [wr_other (by omega) (by omega)]; exact g0)
  have lk : ∀ bs g n off, loadO g n (.ref (A.length + 1 + 1) off) (wr B (A.length + 1 + 1) (A.length + 1) bs) = ofCells g [.sl (.own (A.length + 1) 0) 1 (strBytes bs)] off n :=
    fun bs g n off => load_ref (wr_k (by omega))
  have put : ∀ (n : Nat) (l : List Nat) (bs : List UInt8), n ≤ 8 → l.length ≤ 100 → bs.length + n * l.length ≤ 140737488355328 → Run Try.prog codecH 23 [.ref (A.length + 1 + 1) 0, .int .i64 n, .sl .full 1 (nums l)] (wr B (A.length + 1 + 1) (A.length + 1) bs) =
      some (.ret (.tup []), wr B (A.length + 1 + 1) (A.length + 1) (bs ++ beL n l)) := fun n l bs hn hl' hb' => s23 B _ _ (by omega) (by omega) (by omega) n hn l hl' bs _ hb'
  have p1 := put 4 [f, t] [70, k.toUInt8] (by omega) (by simp) (by simp)
  have p2 := put 8 [s, a] ([70, k.toUInt8] ++ beL 4 [f, t]) (by omega) (by simp) (by simp [beL_length])
  have p3 := put 4 [body.length] ([70, k.toUInt8] ++ beL 4 [f, t] ++ beL 8 [s, a]) (by omega) (by simp) (by simp [beL_length])
  simp only [nums, List.map_cons, List.map_nil] at p1 p2 p3
  have ap := append_bytes (c := A.length + 1) (l := [70, k.toUInt8] ++ beL 4 [f, t] ++ beL 8 [s, a] ++ beL 4 [body.length]) (m := body) (o := o) hes
    (A := wr B (A.length + 1 + 1) (A.length + 1) ([70, k.toUInt8] ++ beL 4 [f, t] ++ beL 8 [s, a] ++ beL 4 [body.length])) (wr_c (by omega) (by omega)) (by simp [beL_length]; omega)
  have kp := iff_true_intro (Kept_new (Kept_wr_new hK (k := A.length + 1 + 1) (c := A.length + 1) (by omega) (by omega) ([70, k.toUInt8] ++ beL 4 [f, t] ++ beL 8 [s, a] ++ beL 4 [body.length]))
    (.tok (([70, k.toUInt8] ++ beL 4 [f, t] ++ beL 8 [s, a] ++ beL 4 [body.length]).length + body.length)) (j := A.length + 1) (by omega))
  have tk := take_new (take_wr_new hT (k := A.length + 1 + 1) (c := A.length + 1) (by omega) (by omega) ([70, k.toUInt8] ++ beL 4 [f, t] ++ beL 8 [s, a] ++ beL 4 [body.length]))
    (.tok (([70, k.toUInt8] ++ beL 4 [f, t] ++ beL 8 [s, a] ++ beL 4 [body.length]).length + body.length)) (j := A.length + 1) (by omega)
  rw [hw]
  have q1 : Run Try.prog codecH 23 [.ref (A.length + 1 + 1) 0, .int .i64 4, .sl .full 1 [.int .u64 (f : Int), .int .u64 t]] (wr B (A.length + 1 + 1) (A.length + 1) [70, k.toUInt8]) = _ := p1
  have q2 : Run Try.prog codecH 23 [.ref (A.length + 1 + 1) 0, .int .i64 8, .sl .full 1 [.int .u64 (s : Int), .int .u64 a]] (wr B (A.length + 1 + 1) (A.length + 1) ([70, k.toUInt8] ++ beL 4 [f, t])) = _ := p2
  have q3 : Run Try.prog codecH 23 [.ref (A.length + 1 + 1) 0, .int .i64 4, .sl .full 1 [.int .u64 (body.length : Int)]] (wr B (A.length + 1 + 1) (A.length + 1) ([70, k.toUInt8] ++ beL 4 [f, t] ++ beL 8 [s, a])) = _ := p3
  simp (disch := first | omega | assumption) only [bn_some, ifb_true, ifb_false, guardP_True, elim_ret, Option.map_some, nilCheck_ref, fieldAddr_ref, lenSl_sl, parts_nil, parts_int, Nat.zero_add, ld, lk, ofCells0, ofCellsS, conv_u64, strBytes_length, q1, q2, q3, ap, kp, tk, leave_trunc, Res_shut_ret, shut_tup, shutL_cons, shut_sl, shutL_str, shut_int, shutL_nil, own_new, frameBytes]
end Go.Vm.Codec
