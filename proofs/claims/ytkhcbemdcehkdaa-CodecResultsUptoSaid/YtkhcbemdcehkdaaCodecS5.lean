/- The deferred calls of the codec's readers. -/
import Derived.Test.YtkhcbemdcehkdaaCodecS4
set_option linter.all false
namespace Go.Vm.Codec
open Go.Proofs
set_option linter.unusedVariables false
set_option linter.unusedSimpArgs false
set_option maxRecDepth 10000
set_option maxHeartbeats 1000000

/-- the three results as they lie above the old part -/
def lay (A : St) (fc : List D) (x y : Int) (T : St) : St := A ++ (.cells fc :: .cells [.int .i64 x] :: .cells [.int .i64 y] :: T)
theorem lay_length (A : St) (fc : List D) (x y : Int) (T : St) : (lay A fc x y T).length = A.length + (T.length + 3) := by simp [lay]
theorem lay_load0 (A : St) (fc : List D) (x y : Int) (T : St) (g : Bool) (n off : Nat) : loadO g n (.ref A.length off) (lay A fc x y T) = ofCells g fc off n := load_ref (by unfold lay; rw [get_app _ _ _ 0 (by omega)]; rfl)
theorem lay_load1 (A : St) (fc : List D) (x y : Int) (T : St) (g : Bool) (n off : Nat) : loadO g n (.ref (A.length + 1) off) (lay A fc x y T) = ofCells g [.int .i64 x] off n := load_ref (by unfold lay; rw [get_app _ _ _ 1 (by omega)]; rfl)
theorem lay_load2 (A : St) (fc : List D) (x y : Int) (T : St) (g : Bool) (n off : Nat) : loadO g n (.ref (A.length + 2) off) (lay A fc x y T) = ofCells g [.int .i64 y] off n := load_ref (by unfold lay; rw [get_app _ _ _ 2 (by omega)]; rfl)
theorem set_app (A L : St) (i : Nat) (s : Slot) (j : Nat) (h : j = A.length + i) : (A ++ L).set j s = A ++ L.set i s := by
  subst h
  rw [List.set_append_right _ _ (by omega)]
  congr 2; omega
theorem lay_store1 (A : St) (fc : List D) (x y x' : Int) (T : St) : storeO false 1 (.ref (A.length + 1) 0) (.int .i64 x') (lay A fc x y T) = some (lay A fc x' y T) := by
  rw [storeO1 (cs := [.int .i64 x]) (by unfold lay; rw [get_app _ _ _ 1 (by omega)]; rfl) rfl (by simp)]
  unfold lay
  rw [set_app _ _ 1 _ _ rfl]; rfl
theorem lay_store2 (A : St) (fc : List D) (x y y' : Int) (T : St) : storeO false 1 (.ref (A.length + 2) 0) (.int .i64 y') (lay A fc x y T) = some (lay A fc x y' T) := by
  rw [storeO1 (cs := [.int .i64 y]) (by unfold lay; rw [get_app _ _ _ 2 (by omega)]; rfl) rfl (by simp)]
  unfold lay
  rw [set_app _ _ 2 _ _ rfl]; rfl
theorem lay_storeA (A : St) (fc vs : List D) (x y : Int) (T : St) (n : Nat) (hv : allCells vs = true) (hn : Nat.beq vs.length n = true) (hc : Nat.beq fc.length n = true) : storeO true n (.ref A.length 0) (.agg vs) (lay A fc x y T) = some (lay A vs x y T) := by
  rw [storeA (cs := fc) (by unfold lay; rw [get_app _ _ _ 0 (by omega)]; rfl) hv hn hc]
  unfold lay
  rw [set_app _ _ 0 _ _ (by omega)]; rfl
theorem lay_store0 (A : St) (fc : List D) (x y : Int) (T : St) (off : Nat) (d : D) (hd : d.cellsT false = some [d]) (ho : off < fc.length) : storeO false 1 (.ref A.length off) d (lay A fc x y T) = some (lay A (splice fc off [d]) x y T) := by
  rw [storeO1 (cs := fc) (by unfold lay; rw [get_app _ _ _ 0 (by omega)]; rfl) hd ho]
  unfold lay
  rw [set_app _ _ 0 _ _ (by omega)]; rfl
theorem lay_app (A : St) (fc : List D) (x y : Int) (T : St) (s : Slot) : lay A fc x y T ++ [s] = lay A fc x y (T ++ [s]) := by simp [lay]
theorem lay_loadT (A : St) (fc : List D) (x y : Int) (T : St) (cs : List D) (g : Bool) (n off : Nat) : loadO g n (.ref (A.length + (T.length + 3)) off) (lay A fc x y (T ++ [.cells cs])) = ofCells g cs off n := load_ref (by
  unfold lay; rw [get_app _ _ _ (T.length + 3) (by omega)]
  simp)
theorem lay_storeT (A : St) (fc : List D) (x y : Int) (T : St) (a b : D) (vs : List D) (hv : allCells vs = true) (hn : Nat.beq vs.length 2 = true) : storeO true 2 (.ref (A.length + (T.length + 3)) 0) (.agg vs) (lay A fc x y (T ++ [.cells [a, b]])) = some (lay A fc x y (T ++ [.cells vs])) := by
  rw [storeA (cs := [a, b]) (by unfold lay; rw [get_app _ _ _ (T.length + 3) (by omega)]; simp) hv hn rfl]
  unfold lay
  rw [set_app _ _ (T.length + 3) _ _ rfl]
  simp
theorem lay_take (A : St) (fc fc' : List D) (x y x' y' : Int) (T U : St) : (lay A fc' x' y' (T ++ U)).take (A.length + (T.length + 3)) = lay A fc' x' y' T := by
  have : lay A fc' x' y' (T ++ U) = lay A fc' x' y' T ++ U := by simp [lay]
  rw [this, show A.length + (T.length + 3) = (lay A fc' x' y' T).length by simp [lay]]
  exact List.take_left
theorem Kept_lay (A : St) (fc fc' : List D) (x y x' y' : Int) (T U : St) (h : fc' = fc ∨ D.shutL (A.length + (T.length + 3)) fc' = fc') : Kept (lay A fc x y T) (lay A fc' x' y' (T ++ U)) := by
  refine ⟨by simp [lay], fun k hk => ?_⟩
  rw [lay_length] at hk ⊢
  by_cases h1 : k < A.length
  · left; unfold lay; rw [List.getElem?_append_left h1, List.getElem?_append_left h1]
  · obtain ⟨i, rfl⟩ : ∃ i, k = A.length + i := ⟨k - A.length, by omega⟩
    unfold lay
    rw [get_app _ _ _ i rfl, get_app _ _ _ i rfl]
    match i with
    | 0 =>
      rcases h with rfl | h
      · exact .inl rfl
      · exact .inr ⟨_, rfl, by simp [h]⟩
    | 1 => exact .inr ⟨_, rfl, by simp⟩
    | 2 => exact .inr ⟨_, rfl, by simp⟩
    | i + 3 =>
      left
      simp only [List.getElem?_cons_succ]
      rw [List.getElem?_append_left (by omega)]
theorem sameAd_lay (A : St) (fc fc' : List D) (x y x' y' : Int) (T : St) (s : Slot) (off : Nat) : sameAd (.ref (A.length + (T.length + 3)) off) (lay A fc x y (T ++ [s])) (lay A fc' x' y' (T ++ [s])) ↔ True := by
  refine iff_true_intro ?_
  show _ = _
  unfold lay
  rw [get_app _ _ _ (T.length + 3) (by omega), get_app _ _ _ (T.length + 3) (by omega)]
  simp
theorem neq_iface (l : Bool) (t : TypeId) (d : D) : binO .neq 1 l (.iface t d) (.val .nilIface) = some (.bool true) := rfl
theorem assert_iface (z : Option D) (t : TypeId) (d : D) : assertV z (.iface t d) t true = some (.tup [d, .bool true]) := by simp [assertV]
theorem extract0 (a : D) (r : List D) : extractD (.tup (a :: r)) 0 = some a := rfl
theorem extract1 (a b : D) (r : List D) : extractD (.tup (a :: b :: r)) 1 = some b := rfl
theorem extract2 (a b c : D) (r : List D) : extractD (.tup (a :: b :: c :: r)) 2 = some c := rfl
theorem un_not (b : Bool) : unD .not (.bool b) = some (.bool !b) := rfl
theorem s26 (A : St) (fc : List D) (x y : Int) (T : St) (p c : Int) :
    Dcall Try.prog codecH (.fn (.func 26) [] []) [.ref (A.length + 1) 0, .ref (A.length + 2) 0] (some (faultD p c)) (lay A fc x y T) = some (none, lay A fc p c T) := by
  rw [rd26p]
  unfold d26p faultD
  have hK := iff_true_intro (Kept_lay A fc fc x y p c T [.cells [.int .i64 p, .int .i64 c]] (.inl rfl))
  have ht := lay_take A fc fc x y p c T [.cells [.int .i64 p, .int .i64 c]]
  have hs := lay_storeT A fc x y T (.int .i64 0) (.int .i64 0) [.int .i64 p, .int .i64 c] rfl rfl
  simp only [bn_some, bn_none, ifb_true, ifb_false, guardP_True, elim_ret, elim_pan, Sum.elim_inl, Sum.elim_inr, Option.map_some, Option.map_none, Option.bind_some, Option.bind_none, Option.bind_eq_bind, getD0, getDs, binO_add, binO_sub, binO_mul, binO_lss, binO_leq, binO_gtr, binO_geq, binO_eql, binO_neq, shl8, or8, shr8, wrap_i64, wrap_u64, conv_byte, conv_u8n, conv_u32n, conv_u64, conv_i64, conv_str, convBytes, convBytes0, bool?_bool, guardB_bool, guardB_undef, beq_ff, beq_tf, beq_tt, beq_ft, dec_lt_t, dec_lt_f, dec_le_t, dec_le_f, dec_gt_t, dec_gt_f, dec_ge_t, dec_ge_f, beq_t, beq_f, bne_t, bne_f, strBytes_length, parts_nil, parts_int, append1_own, append1_full, leave_own_old, leave_own_new, Kept_settok, take_set, take_app, shutL_str, shut_int, shut_bool, shut_any, shut_strD, shut_val, shut_sl, shut_agg, shut_tup, shut_peek, shut_iface, shut_ref, shutL_nil, shutL_cons, own_sh, own_full, own_own, own_new, Kept_refl, Kept_append, tok_shut, cells_shut, leave_keep, leave_trunc, Res_shut_ret, Res_shut_pan, leaves_nil, leaves_pan, leaves_cons, nilCheck_ref, nilCheck_peek, fieldAddr_ref, fieldAddr_peek, lenSl_sl, lenStr_str, load_peek, ofCells0, ofCellsS, index_str, List.take_length, List.map_nil, List.drop_zero, List.drop_succ_cons, Nat.zero_add, Nat.add_zero, wr_length, rd_length, rd_load, rd_store0, rd_store1, rd_take, Kept_rd2, slice_to, slice_from, shutL_nums, nums_length, cell_sl, cell_int, splice1, box_agg2, allCells_nil, allCells_int, allCells_bool, allCells_sl, cond_true, cond_false, alloc_eq, tok_lit, tok_nil, lay_int, lay_sl, lay_bool, lay_s, splice0, spliceS, ofA2, ofA3, ofA4, ofA6, packD, List.take_left, List.length_append, List.length_cons, List.length_nil, List.length_set, neq_iface, assert_iface, extract0, extract1, un_not, lay_length, lay_app, lay_loadT, lay_store1, lay_store2, sameAd_lay, hK, hs, ht, and_self, Bool.not_true]
theorem s26n (A : St) (fc : List D) (x y : Int) (T : St) :
    Dcall Try.prog codecH (.fn (.func 26) [] []) [.ref (A.length + 1) 0, .ref (A.length + 2) 0] none (lay A fc x y T) = some (none, lay A fc x y T) := by
  rw [rd26n]
  unfold d26n
  have hb : D.bool? (negIf true true) = some false := rfl
  simp only [bn_some, bn_none, ifb_true, ifb_false, guardP_True, elim_ret, elim_pan, Sum.elim_inl, Sum.elim_inr, Option.map_some, Option.map_none, Option.bind_some, Option.bind_none, Option.bind_eq_bind, getD0, getDs, binO_add, binO_sub, binO_mul, binO_lss, binO_leq, binO_gtr, binO_geq, binO_eql, binO_neq, shl8, or8, shr8, wrap_i64, wrap_u64, conv_byte, conv_u8n, conv_u32n, conv_u64, conv_i64, conv_str, convBytes, convBytes0, bool?_bool, guardB_bool, guardB_undef, beq_ff, beq_tf, beq_tt, beq_ft, dec_lt_t, dec_lt_f, dec_le_t, dec_le_f, dec_gt_t, dec_gt_f, dec_ge_t, dec_ge_f, beq_t, beq_f, bne_t, bne_f, strBytes_length, parts_nil, parts_int, append1_own, append1_full, leave_own_old, leave_own_new, Kept_settok, take_set, take_app, shutL_str, shut_int, shut_bool, shut_any, shut_strD, shut_val, shut_sl, shut_agg, shut_tup, shut_peek, shut_iface, shut_ref, shutL_nil, shutL_cons, own_sh, own_full, own_own, own_new, Kept_refl, Kept_append, tok_shut, cells_shut, leave_keep, leave_trunc, Res_shut_ret, Res_shut_pan, leaves_nil, leaves_pan, leaves_cons, nilCheck_ref, nilCheck_peek, fieldAddr_ref, fieldAddr_peek, lenSl_sl, lenStr_str, load_peek, ofCells0, ofCellsS, index_str, List.take_length, List.map_nil, List.drop_zero, List.drop_succ_cons, Nat.zero_add, Nat.add_zero, wr_length, rd_length, rd_load, rd_store0, rd_store1, rd_take, Kept_rd2, slice_to, slice_from, shutL_nums, nums_length, cell_sl, cell_int, splice1, box_agg2, allCells_nil, allCells_int, allCells_bool, allCells_sl, cond_true, cond_false, alloc_eq, tok_lit, tok_nil, lay_int, lay_sl, lay_bool, lay_s, splice0, spliceS, ofA2, ofA3, ofA4, ofA6, packD, List.take_left, List.length_append, List.length_cons, List.length_nil, List.length_set, hb]
def zeroF : List D := [.int .u8 0, .int .u32 0, .int .u32 0, .int .u64 0, .int .u64 0, .sl .full 0 []]
theorem s25 (A : St) (fc : List D) (hf : Nat.beq fc.length 6 = true) (x y : Int) (T : St) :
    Dcall Try.prog codecH (.fn (.func 25) [] [.ref (A.length + 2) 0, .ref A.length 0]) [] none (lay A fc x y T) = some (none, if y = 0 then lay A fc x y T else lay A zeroF x y T) := by
  rw [rd25n]
  unfold d25n
  have hK := iff_true_intro (Kept_lay A fc zeroF x y x y T [] (.inr (by simp [zeroF])))
  have hs := lay_storeA A fc zeroF x y T 6 rfl rfl hf
  have ht := lay_take A fc zeroF x y x y T []
  rw [List.append_nil] at hK ht
  unfold zeroF at hK hs ht
  by_cases hy : y = 0
  · simp (disch := omega) only [bn_some, bn_none, ifb_true, ifb_false, guardP_True, elim_ret, elim_pan, Sum.elim_inl, Sum.elim_inr, Option.map_some, Option.map_none, Option.bind_some, Option.bind_none, Option.bind_eq_bind, getD0, getDs, binO_add, binO_sub, binO_mul, binO_lss, binO_leq, binO_gtr, binO_geq, binO_eql, binO_neq, shl8, or8, shr8, wrap_i64, wrap_u64, conv_byte, conv_u8n, conv_u32n, conv_u64, conv_i64, conv_str, convBytes, convBytes0, bool?_bool, guardB_bool, guardB_undef, beq_ff, beq_tf, beq_tt, beq_ft, dec_lt_t, dec_lt_f, dec_le_t, dec_le_f, dec_gt_t, dec_gt_f, dec_ge_t, dec_ge_f, beq_t, beq_f, bne_t, bne_f, strBytes_length, parts_nil, parts_int, append1_own, append1_full, leave_own_old, leave_own_new, Kept_settok, take_set, take_app, shutL_str, shut_int, shut_bool, shut_any, shut_strD, shut_val, shut_sl, shut_agg, shut_tup, shut_peek, shut_iface, shut_ref, shutL_nil, shutL_cons, own_sh, own_full, own_own, own_new, Kept_refl, Kept_append, tok_shut, cells_shut, leave_keep, leave_trunc, Res_shut_ret, Res_shut_pan, leaves_nil, leaves_pan, leaves_cons, nilCheck_ref, nilCheck_peek, fieldAddr_ref, fieldAddr_peek, lenSl_sl, lenStr_str, load_peek, ofCells0, ofCellsS, index_str, List.take_length, List.map_nil, List.drop_zero, List.drop_succ_cons, Nat.zero_add, Nat.add_zero, wr_length, rd_length, rd_load, rd_store0, rd_store1, rd_take, Kept_rd2, slice_to, slice_from, shutL_nums, nums_length, cell_sl, cell_int, splice1, box_agg2, allCells_nil, allCells_int, allCells_bool, allCells_sl, cond_true, cond_false, alloc_eq, tok_lit, tok_nil, lay_int, lay_sl, lay_bool, lay_s, splice0, spliceS, ofA2, ofA3, ofA4, ofA6, packD, List.take_left, List.length_append, List.length_cons, List.length_nil, List.length_set, lay_load2, hy, if_true]
  · simp (disch := omega) only [bn_some, bn_none, ifb_true, ifb_false, guardP_True, elim_ret, elim_pan, Sum.elim_inl, Sum.elim_inr, Option.map_some, Option.map_none, Option.bind_some, Option.bind_none, Option.bind_eq_bind, getD0, getDs, binO_add, binO_sub, binO_mul, binO_lss, binO_leq, binO_gtr, binO_geq, binO_eql, binO_neq, shl8, or8, shr8, wrap_i64, wrap_u64, conv_byte, conv_u8n, conv_u32n, conv_u64, conv_i64, conv_str, convBytes, convBytes0, bool?_bool, guardB_bool, guardB_undef, beq_ff, beq_tf, beq_tt, beq_ft, dec_lt_t, dec_lt_f, dec_le_t, dec_le_f, dec_gt_t, dec_gt_f, dec_ge_t, dec_ge_f, beq_t, beq_f, bne_t, bne_f, strBytes_length, parts_nil, parts_int, append1_own, append1_full, leave_own_old, leave_own_new, Kept_settok, take_set, take_app, shutL_str, shut_int, shut_bool, shut_any, shut_strD, shut_val, shut_sl, shut_agg, shut_tup, shut_peek, shut_iface, shut_ref, shutL_nil, shutL_cons, own_sh, own_full, own_own, own_new, Kept_refl, Kept_append, tok_shut, cells_shut, leave_keep, leave_trunc, Res_shut_ret, Res_shut_pan, leaves_nil, leaves_pan, leaves_cons, nilCheck_ref, nilCheck_peek, fieldAddr_ref, fieldAddr_peek, lenSl_sl, lenStr_str, load_peek, ofCells0, ofCellsS, index_str, List.take_length, List.map_nil, List.drop_zero, List.drop_succ_cons, Nat.zero_add, Nat.add_zero, wr_length, rd_length, rd_load, rd_store0, rd_store1, rd_take, Kept_rd2, slice_to, slice_from, shutL_nums, nums_length, cell_sl, cell_int, splice1, box_agg2, allCells_nil, allCells_int, allCells_bool, allCells_sl, cond_true, cond_false, alloc_eq, tok_lit, tok_nil, lay_int, lay_sl, lay_bool, lay_s, splice0, spliceS, ofA2, ofA3, ofA4, ofA6, packD, List.take_left, List.length_append, List.length_cons, List.length_nil, List.length_set, lay_load2, hs, hK, lay_length, ht, if_neg hy, zeroF]
end Go.Vm.Codec
