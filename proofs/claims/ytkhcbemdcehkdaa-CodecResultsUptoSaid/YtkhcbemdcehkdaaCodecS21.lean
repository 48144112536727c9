/- The bytes of a result: what the reference's Result comes to. -/
import Derived.Test.YtkhcbemdcehkdaaCodecS20
set_option linter.all false
namespace Go.Vm.Codec
open Go.Proofs
set_option linter.unusedVariables false
set_option linter.unusedSimpArgs false
set_option maxRecDepth 10000
set_option maxHeartbeats 1000000

/-- the boxed result, and the room of what is written -/
def tkS (A : St) (r : List D) (n : Nat) : St := A ++ [.cells r, .tok n]
theorem tkS_length (A : St) (r : List D) (n : Nat) : (tkS A r n).length = A.length + 2 := by simp [tkS]
theorem tkS_load (A : St) (r : List D) (m : Nat) (g : Bool) (n off : Nat) : loadO g n (.ref A.length off) (tkS A r m) = ofCells g r off n := load_ref (by unfold tkS; rw [get_app _ _ _ 0 (by omega)]; rfl)
theorem tkS_tok (A : St) (r : List D) (m : Nat) : (tkS A r m)[A.length + 1]? = some (.tok m) := by unfold tkS; rw [get_app _ _ _ 1 (by omega)]; rfl
theorem tkS_set (A : St) (r : List D) (m m' : Nat) : (tkS A r m).set (A.length + 1) (.tok m') = tkS A r m' := by unfold tkS; rw [set_app _ _ 1 _ _ rfl]; rfl
theorem sameAd_tkS (A : St) (r : List D) (m m' off : Nat) : sameAd (.ref A.length off) (tkS A r m) (tkS A r m') ↔ True := by
  refine iff_true_intro ?_
  show _ = _
  unfold tkS
  rw [get_app _ _ _ 0 (by omega), get_app _ _ _ 0 (by omega)]
  rfl
theorem sameAd_peek (cs : List D) (A B : St) : sameAd (.peek cs) A B ↔ True := Iff.rfl
theorem Kept_tkS (A : St) (r : List D) (m m' : Nat) : Kept (tkS A r m) (tkS A r m') ↔ True := by
  rw [← tkS_set A r m m']
  exact Kept_settok
theorem Kept_tkA (A : St) (r : List D) (m : Nat) : Kept A (tkS A r m) ↔ True := Kept_append _ _
theorem take_tkA (A : St) (r : List D) (m : Nat) : (tkS A r m).take A.length = A := List.take_left
theorem take_tkS (A : St) (r : List D) (m : Nat) : (tkS A r m).take (A.length + 2) = tkS A r m := List.take_of_length_le (by simp [tkS])
theorem q24 (A : St) (r : List D) (x n : Nat) (L : List UInt8) (hn : n ≤ 8) (hl : L.length + n ≤ 140737488355328) :
    Run Try.prog codecH 24 [.sl (.own (A.length + 1) 0) 1 (strBytes L), .int .u64 x, .int .i64 n] (tkS A r L.length) = some (.ret (.sl (.own (A.length + 1) 0) 1 (strBytes (L ++ be n x))), tkS A r (L ++ be n x).length) := by
  rw [s24 _ x n _ L hn (by rw [tkS_length]; omega) (tkS_tok A r _) hl, tkS_set]
  simp
theorem q2 (A : St) (r : List D) (x : Nat) (L : List UInt8) (hl : L.length + 2 ≤ 140737488355328) :
    Run Try.prog codecH 24 [.sl (.own (A.length + 1) 0) 1 (strBytes L), .int .u64 x, .int .i64 2] (tkS A r L.length) = some (.ret (.sl (.own (A.length + 1) 0) 1 (strBytes (L ++ be 2 x))), tkS A r (L ++ be 2 x).length) := q24 A r x 2 L (by omega) hl
theorem q4 (A : St) (r : List D) (x : Nat) (L : List UInt8) (hl : L.length + 4 ≤ 140737488355328) :
    Run Try.prog codecH 24 [.sl (.own (A.length + 1) 0) 1 (strBytes L), .int .u64 x, .int .i64 4] (tkS A r L.length) = some (.ret (.sl (.own (A.length + 1) 0) 1 (strBytes (L ++ be 4 x))), tkS A r (L ++ be 4 x).length) := q24 A r x 4 L (by omega) hl
theorem q8 (A : St) (r : List D) (x : Nat) (L : List UInt8) (hl : L.length + 8 ≤ 140737488355328) :
    Run Try.prog codecH 24 [.sl (.own (A.length + 1) 0) 1 (strBytes L), .int .u64 x, .int .i64 8] (tkS A r L.length) = some (.ret (.sl (.own (A.length + 1) 0) 1 (strBytes (L ++ be 8 x))), tkS A r (L ++ be 8 x).length) := q24 A r x 8 L (by omega) hl
theorem s19_sh (A : St) (inv node : Int) (vo so : Own) (v : Stamps) (l : Shares) (hv : l.length ≤ 1048576) (i : Nat) (hlt : i < l.length) (hu : l[i].c < 18446744073709551616) (L : List UInt8) (hb : L.length + 12 + l[i].d.length ≤ 140737488355328) :
    f19_s0 (Run Try.prog codecH) (Dcall Try.prog codecH) A (Env.mk [D.any, .ref A.length 0, D.any, D.any, D.any, .sl (.own (A.length + 1) 0) 1 (strBytes L), D.any, .int .i64 i, D.any, D.any, D.any, D.any, D.any, D.any, D.any, D.any, D.any, D.any, D.any, D.any, D.any, D.any, D.any, D.any, D.any, D.any, D.any, D.any, D.any, D.any, D.any, D.any, D.any, D.any, D.any, D.any, D.any, D.any, D.any, D.any, D.any, D.any, D.any, D.any, D.any, D.any, D.any, D.any, D.any, D.any, D.any, D.any, D.any, D.any, D.any, D.any, D.any, D.any, D.any, D.any, D.any, D.any, D.any, D.any, D.any, D.any, D.any, D.any, D.any, D.any, D.any, D.any, D.any, D.any, D.any, D.any, D.any, D.any, D.any, D.any, D.any, D.any, D.any, D.any, D.any, D.any, D.any, D.any, D.any, D.any] []) (tkS A [.int .i64 inv, .int .i64 node, .sl vo 2 (stampsD v), .sl so 2 (sharesD l)] L.length) =
      some (.inl ((Env.mk [D.any, .ref A.length 0, D.any, D.any, D.any, .sl (.own (A.length + 1) 0) 1 (strBytes (L ++ shB l[i])), D.any, .int .i64 ((i + 1 : Nat) : Int), D.any, D.any, D.any, D.any, D.any, D.any, D.any, D.any, D.any, D.any, D.any, D.any, D.any, D.any, D.any, D.any, D.any, D.any, D.any, D.any, D.any, D.any, D.any, D.any, D.any, D.any, D.any, D.any, D.any, D.any, D.any, D.any, D.any, D.any, D.any, D.any, D.any, D.any, D.any, D.any, D.any, D.any, D.any, D.any, D.any, D.any, D.any, D.any, D.any, D.any, D.any, D.any, D.any, D.any, D.any, D.any, D.any, D.any, D.any, D.any, D.any, D.any, D.any, D.any, D.any, D.any, D.any, D.any, D.any, D.any, D.any, D.any, D.any, D.any, D.any, D.any, D.any, D.any, D.any, D.any, D.any, D.any] []), tkS A [.int .i64 inv, .int .i64 node, .sl vo 2 (stampsD v), .sl so 2 (sharesD l)] (L ++ shB l[i]).length)) := by
  generalize hr : [D.int .i64 inv, .int .i64 node, .sl vo 2 (stampsD v), .sl so 2 (sharesD l)] = r
  have ld : ∀ m g n off, loadO g n (.ref A.length off) (tkS A r m) = ofCells g [D.int .i64 inv, .int .i64 node, .sl vo 2 (stampsD v), .sl so 2 (sharesD l)] off n := fun m g n off => by rw [tkS_load, ← hr]
  have p8 := q8 A r l[i].c L (by omega)
  have p4 := q4 A r l[i].d.length (L ++ be 8 l[i].c) (by simp; omega)
  obtain ⟨M, hM⟩ : ∃ M, M = L ++ be 8 l[i].c ++ be 4 l[i].d.length := ⟨_, rfl⟩
  rw [← hM] at p4
  have hMl : M.length = L.length + 12 := by rw [hM]; simp
  have ap := append_bytes (c := A.length + 1) (l := M) (m := l[i].d) (o := ow l[i].f) (es := 1) (by simp [esOk]) (A := tkS A r M.length) (tkS_tok A r _) (by omega)
  rw [tkS_set] at ap
  generalize hN : L ++ be 8 l[i].c = N at *
  unfold f19_s0
  (repeat (first | (first | with_reducible refine st_some ?_ | with_reducible refine st_bnbn ?_ | with_reducible refine st_bind ?_ | with_reducible refine st_map ?_ | with_reducible refine st_bnif ?_ | with_reducible refine st_bnelim ?_ | with_reducible refine st_bnsum ?_ | with_reducible refine st_bnguard ?_ | with_reducible refine st_ift ?_ | with_reducible refine st_iff ?_ | with_reducible refine st_ret ?_ | with_reducible refine st_pan ?_ | with_reducible refine st_inl ?_ | with_reducible refine st_inr ?_ | with_reducible refine st_guard ?_) | ((conv => lhs; arg 1; simp (disch := first | omega | assumption) only [bn_some, bn_none, ifb_true, ifb_false, guardP_True, elim_ret, elim_pan, Sum.elim_inl, Sum.elim_inr, Option.map_some, Option.map_none, Option.bind_some, Option.bind_none, Option.bind_eq_bind, getD0, getDs, binO_add, binO_sub, binO_mul, binO_lss, binO_leq, binO_gtr, binO_geq, binO_eql, binO_neq, shl8, or8, shr8, wrap_i64, wrap_u64, conv_byte, conv_u8n, conv_u32n, conv_u64, conv_i64, conv_str, convBytes, convBytes0, bool?_bool, guardB_bool, guardB_undef, beq_ff, beq_tf, beq_tt, beq_ft, dec_lt_t, dec_lt_f, dec_le_t, dec_le_f, dec_gt_t, dec_gt_f, dec_ge_t, dec_ge_f, beq_t, beq_f, bne_t, bne_f, strBytes_length, parts_nil, parts_int, append1_own, append1_full, leave_own_old, leave_own_new, Kept_settok, take_set, take_app, shutL_str, shut_int, shut_bool, shut_any, shut_strD, shut_val, shut_sl, shut_agg, shut_tup, shut_peek, shut_iface, shut_ref, shutL_nil, shutL_cons, own_sh, own_full, own_own, own_new, Kept_refl, Kept_append, tok_shut, cells_shut, leave_keep, leave_trunc, Res_shut_ret, Res_shut_pan, leaves_nil, leaves_pan, leaves_cons, nilCheck_ref, nilCheck_peek, fieldAddr_ref, fieldAddr_peek, lenSl_sl, lenStr_str, load_peek, ofCells0, ofCellsS, index_str, List.take_length, List.map_nil, List.drop_zero, List.drop_succ_cons, Nat.zero_add, Nat.add_zero, wr_length, rd_length, rd_load, rd_store0, rd_store1, rd_take, Kept_rd2, slice_to, slice_from, shutL_nums, nums_length, cell_sl, cell_int, splice1, box_agg2, allCells_nil, allCells_int, allCells_bool, allCells_sl, cond_true, cond_false, alloc_eq, tok_lit, tok_nil, lay_int, lay_sl, lay_bool, lay_s, splice0, spliceS, ofA2, ofA3, ofA4, ofA6, packD, List.take_left, List.length_append, List.length_cons, List.length_nil, List.length_set, ld, sharesD_length, index_sh, p8, p4, ap, sameAd_tkS, sameAd_peek, and_self]); (first | with_reducible refine st_some ?_ | with_reducible refine st_bnbn ?_ | with_reducible refine st_bind ?_ | with_reducible refine st_map ?_ | with_reducible refine st_bnif ?_ | with_reducible refine st_bnelim ?_ | with_reducible refine st_bnsum ?_ | with_reducible refine st_bnguard ?_ | with_reducible refine st_ift ?_ | with_reducible refine st_iff ?_ | with_reducible refine st_ret ?_ | with_reducible refine st_pan ?_ | with_reducible refine st_inl ?_ | with_reducible refine st_inr ?_ | with_reducible refine st_guard ?_))))
  simp (disch := first | omega | assumption) only [bn_some, bn_none, ifb_true, ifb_false, guardP_True, elim_ret, elim_pan, Sum.elim_inl, Sum.elim_inr, Option.map_some, Option.map_none, Option.bind_some, Option.bind_none, Option.bind_eq_bind, getD0, getDs, binO_add, binO_sub, binO_mul, binO_lss, binO_leq, binO_gtr, binO_geq, binO_eql, binO_neq, shl8, or8, shr8, wrap_i64, wrap_u64, conv_byte, conv_u8n, conv_u32n, conv_u64, conv_i64, conv_str, convBytes, convBytes0, bool?_bool, guardB_bool, guardB_undef, beq_ff, beq_tf, beq_tt, beq_ft, dec_lt_t, dec_lt_f, dec_le_t, dec_le_f, dec_gt_t, dec_gt_f, dec_ge_t, dec_ge_f, beq_t, beq_f, bne_t, bne_f, strBytes_length, parts_nil, parts_int, append1_own, append1_full, leave_own_old, leave_own_new, Kept_settok, take_set, take_app, shutL_str, shut_int, shut_bool, shut_any, shut_strD, shut_val, shut_sl, shut_agg, shut_tup, shut_peek, shut_iface, shut_ref, shutL_nil, shutL_cons, own_sh, own_full, own_own, own_new, Kept_refl, Kept_append, tok_shut, cells_shut, leave_keep, leave_trunc, Res_shut_ret, Res_shut_pan, leaves_nil, leaves_pan, leaves_cons, nilCheck_ref, nilCheck_peek, fieldAddr_ref, fieldAddr_peek, lenSl_sl, lenStr_str, load_peek, ofCells0, ofCellsS, index_str, List.take_length, List.map_nil, List.drop_zero, List.drop_succ_cons, Nat.zero_add, Nat.add_zero, wr_length, rd_length, rd_load, rd_store0, rd_store1, rd_take, Kept_rd2, slice_to, slice_from, shutL_nums, nums_length, cell_sl, cell_int, splice1, box_agg2, allCells_nil, allCells_int, allCells_bool, allCells_sl, cond_true, cond_false, alloc_eq, tok_lit, tok_nil, lay_int, lay_sl, lay_bool, lay_s, splice0, spliceS, ofA2, ofA3, ofA4, ofA6, packD, List.take_left, List.length_append, List.length_cons, List.length_nil, List.length_set, tkS_length, Kept_tkS, take_tkS]
  have e : M ++ l[i].d = L ++ shB l[i] := by rw [hM, ← hN]; simp [shB]
  have e2 : M.length + l[i].d.length = (L ++ shB l[i]).length := by rw [← e, List.length_append]
  rw [e]
  simp only [List.length_append] at e2 ⊢
  rw [e2]
  rfl
theorem s19_shs (A : St) (inv node : Int) (vo so : Own) (v : Stamps) (l : Shares) (hv : l.length ≤ 1048576) (hu : ∀ s ∈ l, s.c < 18446744073709551616) :
    ∀ (m i : Nat) (L : List UInt8), i + m = l.length → L.length + szS (l.drop i) ≤ 140737488355328 →
    iterK (f19_s0 (Run Try.prog codecH) (Dcall Try.prog codecH) A) (Env.mk [D.any, .ref A.length 0, D.any, D.any, D.any, .sl (.own (A.length + 1) 0) 1 (strBytes L), D.any, .int .i64 i, D.any, D.any, D.any, D.any, D.any, D.any, D.any, D.any, D.any, D.any, D.any, D.any, D.any, D.any, D.any, D.any, D.any, D.any, D.any, D.any, D.any, D.any, D.any, D.any, D.any, D.any, D.any, D.any, D.any, D.any, D.any, D.any, D.any, D.any, D.any, D.any, D.any, D.any, D.any, D.any, D.any, D.any, D.any, D.any, D.any, D.any, D.any, D.any, D.any, D.any, D.any, D.any, D.any, D.any, D.any, D.any, D.any, D.any, D.any, D.any, D.any, D.any, D.any, D.any, D.any, D.any, D.any, D.any, D.any, D.any, D.any, D.any, D.any, D.any, D.any, D.any, D.any, D.any, D.any, D.any, D.any, D.any] []) (tkS A [.int .i64 inv, .int .i64 node, .sl vo 2 (stampsD v), .sl so 2 (sharesD l)] L.length) =
      some (.ret (.tup [.sl .sh 1 (strBytes (L ++ shsB (l.drop i))), .int .i64 0]), A) := by
  intro m
  induction m with
  | zero =>
    intro i L hi hb
    have hstep : f19_s0 (Run Try.prog codecH) (Dcall Try.prog codecH) A (Env.mk [D.any, .ref A.length 0, D.any, D.any, D.any, .sl (.own (A.length + 1) 0) 1 (strBytes L), D.any, .int .i64 i, D.any, D.any, D.any, D.any, D.any, D.any, D.any, D.any, D.any, D.any, D.any, D.any, D.any, D.any, D.any, D.any, D.any, D.any, D.any, D.any, D.any, D.any, D.any, D.any, D.any, D.any, D.any, D.any, D.any, D.any, D.any, D.any, D.any, D.any, D.any, D.any, D.any, D.any, D.any, D.any, D.any, D.any, D.any, D.any, D.any, D.any, D.any, D.any, D.any, D.any, D.any, D.any, D.any, D.any, D.any, D.any, D.any, D.any, D.any, D.any, D.any, D.any, D.any, D.any, D.any, D.any, D.any, D.any, D.any, D.any, D.any, D.any, D.any, D.any, D.any, D.any, D.any, D.any, D.any, D.any, D.any, D.any] []) (tkS A [.int .i64 inv, .int .i64 node, .sl vo 2 (stampsD v), .sl so 2 (sharesD l)] L.length) = some (.inr (.ret (.tup [.sl .sh 1 (strBytes L), .int .i64 0]), A)) := by
      unfold f19_s0
      simp (disch := first | omega | assumption) only [bn_some, bn_none, ifb_true, ifb_false, guardP_True, elim_ret, elim_pan, Sum.elim_inl, Sum.elim_inr, Option.map_some, Option.map_none, Option.bind_some, Option.bind_none, Option.bind_eq_bind, getD0, getDs, binO_add, binO_sub, binO_mul, binO_lss, binO_leq, binO_gtr, binO_geq, binO_eql, binO_neq, shl8, or8, shr8, wrap_i64, wrap_u64, conv_byte, conv_u8n, conv_u32n, conv_u64, conv_i64, conv_str, convBytes, convBytes0, bool?_bool, guardB_bool, guardB_undef, beq_ff, beq_tf, beq_tt, beq_ft, dec_lt_t, dec_lt_f, dec_le_t, dec_le_f, dec_gt_t, dec_gt_f, dec_ge_t, dec_ge_f, beq_t, beq_f, bne_t, bne_f, strBytes_length, parts_nil, parts_int, append1_own, append1_full, leave_own_old, leave_own_new, Kept_settok, take_set, take_app, shutL_str, shut_int, shut_bool, shut_any, shut_strD, shut_val, shut_sl, shut_agg, shut_tup, shut_peek, shut_iface, shut_ref, shutL_nil, shutL_cons, own_sh, own_full, own_own, own_new, Kept_refl, Kept_append, tok_shut, cells_shut, leave_keep, leave_trunc, Res_shut_ret, Res_shut_pan, leaves_nil, leaves_pan, leaves_cons, nilCheck_ref, nilCheck_peek, fieldAddr_ref, fieldAddr_peek, lenSl_sl, lenStr_str, load_peek, ofCells0, ofCellsS, index_str, List.take_length, List.map_nil, List.drop_zero, List.drop_succ_cons, Nat.zero_add, Nat.add_zero, wr_length, rd_length, rd_load, rd_store0, rd_store1, rd_take, Kept_rd2, slice_to, slice_from, shutL_nums, nums_length, cell_sl, cell_int, splice1, box_agg2, allCells_nil, allCells_int, allCells_bool, allCells_sl, cond_true, cond_false, alloc_eq, tok_lit, tok_nil, lay_int, lay_sl, lay_bool, lay_s, splice0, spliceS, ofA2, ofA3, ofA4, ofA6, packD, List.take_left, List.length_append, List.length_cons, List.length_nil, List.length_set, tkS_load, sharesD_length, Kept_tkA, take_tkA]
    rw [iterK_eq, hstep, List.drop_of_length_le (by omega)]
    simp [shsB]
  | succ m ih =>
    intro i L hi hb
    have hlt : i < l.length := by omega
    have hd : l.drop i = l[i] :: l.drop (i + 1) := List.drop_eq_getElem_cons hlt
    rw [hd, szS] at hb
    rw [iterK_eq, s19_sh A inv node vo so v l hv i hlt (hu _ (List.getElem_mem hlt)) L (by omega)]
    simp only [Option.bind_some, Sum.elim_inl]
    rw [ih (i + 1) _ (by omega) (by simp [shB]; omega), hd]
    simp only [shsB, List.flatMap_cons, List.append_assoc]
end Go.Vm.Codec
