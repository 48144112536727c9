/- CodecS17, CodecS18, CodecS19, CodecS20 in one text. -/
import Derived.Test.YtkhcbemdcehkdaaCodecS16
set_option linter.all false
/- The bytes of a result: the codec's writer. -/
namespace Go.Vm.Codec
open Go.Proofs
set_option linter.unusedVariables false
set_option linter.unusedSimpArgs false
set_option maxRecDepth 10000
set_option maxHeartbeats 1000000

theorem put2 (B : St) (k c x : Nat) (bs : List UInt8) (hk : k < B.length) (hc : c < B.length) (hkc : k ≠ c) (hb : bs.length + 2 ≤ 140737488355328) :
    Run Try.prog codecH 23 [.ref k 0, .int .i64 2, .sl .full 1 [.int .u64 x]] (wr B k c bs) = some (.ret (.tup []), wr B k c (bs ++ be 2 x)) := by
  have := s23 B k c hk hc hkc 2 (by omega) [x] (by simp) bs .full (by simpa using hb)
  simpa [nums, beL] using this
theorem put4 (B : St) (k c x : Nat) (bs : List UInt8) (hk : k < B.length) (hc : c < B.length) (hkc : k ≠ c) (hb : bs.length + 4 ≤ 140737488355328) :
    Run Try.prog codecH 23 [.ref k 0, .int .i64 4, .sl .full 1 [.int .u64 x]] (wr B k c bs) = some (.ret (.tup []), wr B k c (bs ++ be 4 x)) := by
  have := s23 B k c hk hc hkc 4 (by omega) [x] (by simp) bs .full (by simpa using hb)
  simpa [nums, beL] using this
theorem put8 (B : St) (k c x : Nat) (bs : List UInt8) (hk : k < B.length) (hc : c < B.length) (hkc : k ≠ c) (hb : bs.length + 8 ≤ 140737488355328) :
    Run Try.prog codecH 23 [.ref k 0, .int .i64 8, .sl .full 1 [.int .u64 x]] (wr B k c bs) = some (.ret (.tup []), wr B k c (bs ++ be 8 x)) := by
  have := s23 B k c hk hc hkc 8 (by omega) [x] (by simp) bs .full (by simpa using hb)
  simpa [nums, beL] using this
theorem wr_app {B : St} {k c : Nat} (hk : k < B.length) (hc : c < B.length) (bs : List UInt8) (s : Slot) : wr B k c bs ++ [s] = wr (B ++ [s]) k c bs := by
  unfold wr
  rw [List.set_append_left _ _ hc, List.set_append_left _ _ (by simpa using hk)]
theorem wr_load_last {B : St} {k c : Nat} (hk : k < B.length) (hc : c < B.length) (bs : List UInt8) (cs : List D) (g : Bool) (n off : Nat) : loadO g n (.ref B.length off) (wr (B ++ [.cells cs]) k c bs) = ofCells g cs off n :=
  load_ref (by rw [wr_other (by omega) (by omega)]; simp)
theorem wr_load_old {B : St} {k c j : Nat} {cs : List D} (h : B[j]? = some (.cells cs)) (hk : j ≠ k) (hc : j ≠ c) (bs : List UInt8) (g : Bool) (n off : Nat) : loadO g n (.ref j off) (wr B k c bs) = ofCells g cs off n :=
  load_ref (by rw [wr_other hk hc]; exact h)
theorem wr_store_st {B : St} {k c : Nat} (hk : k < B.length) (hc : c < B.length) (bs : List UInt8) (a b : D) (x y : Int) :
    storeO true 2 (.ref B.length 0) (.agg [.int .i64 x, .int .u64 y]) (wr (B ++ [.cells [a, b]]) k c bs) = some (wr (B ++ [.cells [.int .i64 x, .int .u64 y]]) k c bs) := by
  rw [← wr_app hk hc, storeA (cs := [a, b]) (by rw [get_app _ _ _ 0 (by rw [qa9]; omega)]; rfl) rfl rfl rfl, set_app _ _ 0 _ _ (by rw [qa9]; omega), ← wr_app hk hc]
  rfl
theorem wr_store_sh {B : St} {k c : Nat} (hk : k < B.length) (hc : c < B.length) (bs : List UInt8) (a b : D) (x : Int) (o : Own) (ds : List D) :
    storeO true 2 (.ref B.length 0) (.agg [.int .u64 x, .sl o 1 ds]) (wr (B ++ [.cells [a, b]]) k c bs) = some (wr (B ++ [.cells [.int .u64 x, .sl o 1 ds]]) k c bs) := by
  rw [← wr_app hk hc, storeA (cs := [a, b]) (by rw [get_app _ _ _ 0 (by rw [qa9]; omega)]; rfl) rfl rfl rfl, set_app _ _ 0 _ _ (by rw [qa9]; omega), ← wr_app hk hc]
  rfl
theorem wr_Kept_app {B : St} {k c : Nat} (hk : k < B.length) (hc : c < B.length) (hkc : k ≠ c) (bs bs' : List UInt8) (s : Slot) : Kept (wr B k c bs) (wr (B ++ [s]) k c bs') ↔ True := by
  refine iff_true_intro ?_
  rw [← wr_app hk hc]
  have h := Kept_wr2 hk hc hkc bs bs'
  refine ⟨by simp [qa9], fun j hj => ?_⟩
  rw [qa9] at hj
  rw [List.getElem?_append_left (by rw [qa9]; exact hj)]
  exact h.2 j (by rw [qa9]; exact hj)
theorem wr_take_app {B : St} {k c : Nat} (hk : k < B.length) (hc : c < B.length) (bs : List UInt8) (s : Slot) : (wr (B ++ [s]) k c bs).take B.length = wr B k c bs := by
  rw [← wr_app hk hc, ← qa9 B k c bs]
  exact List.take_left
def stB (s : Int × Nat) : List UInt8 := be 2 s.1.toNat ++ be 8 s.2
def shB (s : Share) : List UInt8 := be 8 s.c ++ be 4 s.d.length ++ s.d
def stsB (v : Stamps) : List UInt8 := v.flatMap stB
def shsB (l : Shares) : List UInt8 := l.flatMap shB
/-- one stamp more -/
theorem s18_st (A B : St) (k c : Nat) (hk : k < B.length) (hc : c < B.length) (hkc : k ≠ c) (v : Stamps) (hv : v.length ≤ 9223372036854775807) (i j : Nat) (hlt : i < v.length) (hj : j < B.length) (h0 : 0 ≤ v[i].1) (h1 : v[i].1 < 256) (hu : v[i].2 < 18446744073709551616) (o : Own) (bs : List UInt8) (hb : bs.length + 10 ≤ 140737488355328) :
    f18_s1 (Run Try.prog codecH) (Dcall Try.prog codecH) A (Env.mk [D.any, .ref j 0, D.any, D.any, D.any, .ref k 0, D.any, D.any, D.any, D.any, D.any, D.any, D.any, D.any, D.any, D.any, D.any, D.any, D.any, D.any, D.any, D.any, D.any, D.any, D.any, D.any, D.any, D.any, D.any, D.any, D.any, D.any, D.any, D.any, D.any, D.any, D.any, D.any, .sl o 2 (stampsD v), .int .i64 v.length, .int .i64 i, D.any, D.any, D.any, D.any, D.any, D.any, D.any, D.any, D.any, D.any, D.any, D.any, D.any, D.any, D.any, D.any, D.any, D.any, D.any, D.any, D.any, D.any, D.any, D.any, D.any, D.any, D.any, D.any, D.any, D.any, D.any, D.any, D.any, D.any, D.any, D.any, D.any, D.any, D.any, D.any, D.any, D.any, D.any, D.any, D.any, D.any, D.any, D.any, D.any, D.any, D.any, D.any, D.any, D.any, D.any, D.any] []) (wr B k c bs) =
      some (.inl ((Env.mk [D.any, .ref j 0, D.any, D.any, D.any, .ref k 0, D.any, D.any, D.any, D.any, D.any, D.any, D.any, D.any, D.any, D.any, D.any, D.any, D.any, D.any, D.any, D.any, D.any, D.any, D.any, D.any, D.any, D.any, D.any, D.any, D.any, D.any, D.any, D.any, D.any, D.any, D.any, D.any, .sl (o.shut B.length) 2 (stampsD v), .int .i64 v.length, .int .i64 ((i + 1 : Nat) : Int), D.any, D.any, D.any, D.any, D.any, D.any, D.any, D.any, D.any, D.any, D.any, D.any, D.any, D.any, D.any, D.any, D.any, D.any, D.any, D.any, D.any, D.any, D.any, D.any, D.any, D.any, D.any, D.any, D.any, D.any, D.any, D.any, D.any, D.any, D.any, D.any, D.any, D.any, D.any, D.any, D.any, D.any, D.any, D.any, D.any, D.any, D.any, D.any, D.any, D.any, D.any, D.any, D.any, D.any, D.any, D.any] []), wr B k c (bs ++ stB v[i]))) := by
  have hn : ((v[i].1.toNat : Nat) : Int) = v[i].1 := Int.toNat_of_nonneg h0
  have p2 := put2 (B ++ [.cells [.int .i64 v[i].1, .int .u64 v[i].2]]) k c v[i].1.toNat bs (by simp; omega) (by simp; omega) hkc (by omega)
  rw [hn] at p2
  have p8 := put8 (B ++ [.cells [.int .i64 v[i].1, .int .u64 v[i].2]]) k c v[i].2 (bs ++ be 2 v[i].1.toNat) (by simp; omega) (by simp; omega) hkc (by simp; omega)
  unfold f18_s1
  (repeat (first | (first | with_reducible refine qdn ?_ | with_reducible refine qdp ?_ | with_reducible refine qdq ?_ | with_reducible refine qdt ?_ | with_reducible refine qdo ?_ | with_reducible refine qc0 ?_ | with_reducible refine qdg ?_ | with_reducible refine qbq ?_ | with_reducible refine qdw ?_ | with_reducible refine qdx ?_ | with_reducible refine qdr ?_ | with_reducible refine qds ?_ | with_reducible refine qdv ?_ | with_reducible refine qdu ?_ | with_reducible refine qdf ?_) | ((conv => lhs; arg 1; simp (disch := first | omega | assumption) only [qc7, qde, qb3, qbc, qap, qb4, qch, Sum.elim_inl, Sum.elim_inr, Option.map_some, Option.map_none, Option.bind_some, Option.bind_none, Option.bind_eq_bind, qd0, qdz, qcy, qcq, qcs, qct, qcu, qcv, qcw, qcx, qcr, shl8, or8, shr8, qbw, qbr, qbo, qcm, qbn, qb6, qco, qcn, qbp, qa6, qaz, qau, qaj, qdm, qdk, qdj, qdl, qbt, qbu, qbv, qb5, qci, qcj, qck, qcl, qd3, qd4, qd1, qd2, qaa, qbg, qba, qar, qak, qae, qaf, qaw, qb9, qbx, qbe, qbz, qbd, qcd, qbi, qcb, qc3, qce, qby, qbj, qa0, qcc, qbf, qay, qdh, qcf, qc5, qc6, qbh, qao, qb8, qa7, qa5, qaq, qah, qan, qa4, qa3, qat, qai, qad, qac, qab, qb2, qa2, qbm, qb1, qb0, qa8, List.take_length, List.map_nil, List.drop_zero, List.drop_succ_cons, Nat.zero_add, Nat.add_zero, qa9, qbb, qc4, qbl, qbk, qc8, qb7, qca, qax, qa1, qas, qc1, qbs, qdb, qcp, qal, qam, qag, qav, cond_true, cond_false, qcz, qc9, qc2, qdd, qdi, qcg, qdy, qdc, qda, ofA2, ofA3, ofA4, ofA6, packD, List.take_left, List.length_append, List.length_cons, List.length_nil, List.length_set, index_st, wr_app, wr_load_last, wr_store_st, p2, p8]); (first | with_reducible refine qdn ?_ | with_reducible refine qdp ?_ | with_reducible refine qdq ?_ | with_reducible refine qdt ?_ | with_reducible refine qdo ?_ | with_reducible refine qc0 ?_ | with_reducible refine qdg ?_ | with_reducible refine qbq ?_ | with_reducible refine qdw ?_ | with_reducible refine qdx ?_ | with_reducible refine qdr ?_ | with_reducible refine qds ?_ | with_reducible refine qdv ?_ | with_reducible refine qdu ?_ | with_reducible refine qdf ?_))))
  simp (disch := first | omega | assumption) only [qc7, qde, qb3, qbc, qap, qb4, qch, Sum.elim_inl, Sum.elim_inr, Option.map_some, Option.map_none, Option.bind_some, Option.bind_none, Option.bind_eq_bind, qd0, qdz, qcy, qcq, qcs, qct, qcu, qcv, qcw, qcx, qcr, shl8, or8, shr8, qbw, qbr, qbo, qcm, qbn, qb6, qco, qcn, qbp, qa6, qaz, qau, qaj, qdm, qdk, qdj, qdl, qbt, qbu, qbv, qb5, qci, qcj, qck, qcl, qd3, qd4, qd1, qd2, qaa, qbg, qba, qar, qak, qae, qaf, qaw, qb9, qbx, qbe, qbz, qbd, qcd, qbi, qcb, qc3, qce, qby, qbj, qa0, qcc, qbf, qay, qdh, qcf, qc5, qc6, qbh, qao, qb8, qa7, qa5, qaq, qah, qan, qa4, qa3, qat, qai, qad, qac, qab, qb2, qa2, qbm, qb1, qb0, qa8, List.take_length, List.map_nil, List.drop_zero, List.drop_succ_cons, Nat.zero_add, Nat.add_zero, qa9, qbb, qc4, qbl, qbk, qc8, qb7, qca, qax, qa1, qas, qc1, qbs, qdb, qcp, qal, qam, qag, qav, cond_true, cond_false, qcz, qc9, qc2, qdd, qdi, qcg, qdy, qdc, qda, ofA2, ofA3, ofA4, ofA6, packD, List.take_left, List.length_append, List.length_cons, List.length_nil, List.length_set, shutL_st, wr_Kept_app, wr_take_app, stB, List.append_assoc]
  rfl
end Go.Vm.Codec

/- The bytes of a result: the codec's loops. -/
namespace Go.Vm.Codec
open Go.Proofs
set_option linter.unusedVariables false
set_option linter.unusedSimpArgs false
set_option maxRecDepth 10000
set_option maxHeartbeats 1000000

theorem wr_push {B : St} {k c : Nat} (hk : k < B.length) (hc : c < B.length) (hkc : k ≠ c) (l m : List UInt8) :
    storeO false 1 (.ref k 0) (.sl (.own c 0) 1 (strBytes (l ++ m))) ((wr B k c l).set c (.tok (l.length + m.length))) = some (wr B k c (l ++ m)) := by
  rw [storeO1 (cs := [.sl (.own c 0) 1 (strBytes l)]) (by rw [List.getElem?_set_ne (Ne.symm hkc)]; exact wr_k hk) rfl (by simp)]
  rw [show splice [D.sl (.own c 0) 1 (strBytes l)] 0 [D.sl (.own c 0) 1 (strBytes (l ++ m))] = [.sl (.own c 0) 1 (strBytes (l ++ m))] from rfl]
  rw [wr_set B k c l (l ++ m) hkc _ (by simp)]
theorem wr_loadk {B : St} {k c : Nat} (hk : k < B.length) (bs : List UInt8) (g : Bool) (n off : Nat) : loadO g n (.ref k off) (wr B k c bs) = ofCells g [.sl (.own c 0) 1 (strBytes bs)] off n := load_ref (wr_k hk)
/-- one share more -/
theorem s18_sh (A B : St) (k c : Nat) (hk : k < B.length) (hc : c < B.length) (hkc : k ≠ c) (l : Shares) (hv : l.length ≤ 9223372036854775807) (i : Nat) (hlt : i < l.length) (hu : l[i].c < 18446744073709551616) (o : Own) (bs : List UInt8) (hb : bs.length + 12 + l[i].d.length ≤ 140737488355328) :
    f18_s0 (Run Try.prog codecH) (Dcall Try.prog codecH) A (Env.mk [D.any, D.any, D.any, D.any, D.any, .ref k 0, D.any, D.any, D.any, D.any, D.any, D.any, D.any, D.any, D.any, D.any, D.any, D.any, D.any, D.any, D.any, D.any, D.any, D.any, D.any, D.any, D.any, D.any, D.any, D.any, D.any, D.any, D.any, D.any, D.any, D.any, D.any, D.any, D.any, D.any, D.any, D.any, D.any, D.any, D.any, D.any, D.any, D.any, D.any, D.any, D.any, D.any, D.any, D.any, D.any, D.any, D.any, D.any, D.any, D.any, D.any, D.any, D.any, D.any, .sl o 2 (sharesD l), .int .i64 l.length, .int .i64 i, D.any, D.any, D.any, D.any, D.any, D.any, D.any, D.any, D.any, D.any, D.any, D.any, D.any, D.any, D.any, D.any, D.any, D.any, D.any, D.any, D.any, D.any, D.any, D.any, D.any, D.any, D.any, D.any, D.any, D.any] []) (wr B k c bs) =
      some (.inl ((Env.mk [D.any, D.any, D.any, D.any, D.any, .ref k 0, D.any, D.any, D.any, D.any, D.any, D.any, D.any, D.any, D.any, D.any, D.any, D.any, D.any, D.any, D.any, D.any, D.any, D.any, D.any, D.any, D.any, D.any, D.any, D.any, D.any, D.any, D.any, D.any, D.any, D.any, D.any, D.any, D.any, D.any, D.any, D.any, D.any, D.any, D.any, D.any, D.any, D.any, D.any, D.any, D.any, D.any, D.any, D.any, D.any, D.any, D.any, D.any, D.any, D.any, D.any, D.any, D.any, D.any, .sl (o.shut B.length) 2 (sharesD l), .int .i64 l.length, .int .i64 ((i + 1 : Nat) : Int), D.any, D.any, D.any, D.any, D.any, D.any, D.any, D.any, D.any, D.any, D.any, D.any, D.any, D.any, D.any, D.any, D.any, D.any, D.any, D.any, D.any, D.any, D.any, D.any, D.any, D.any, D.any, D.any, D.any, D.any] []), wr B k c (bs ++ shB l[i]))) := by
  have p8 := put8 (B ++ [.cells [.int .u64 l[i].c, .sl (ow l[i].f) 1 (strBytes l[i].d)]]) k c l[i].c bs (by simp; omega) (by simp; omega) hkc (by omega)
  have p4 := put4 (B ++ [.cells [.int .u64 l[i].c, .sl (ow l[i].f) 1 (strBytes l[i].d)]]) k c l[i].d.length (bs ++ be 8 l[i].c) (by simp; omega) (by simp; omega) hkc (by simp; omega)
  obtain ⟨L, hL⟩ : ∃ L, L = bs ++ be 8 l[i].c ++ be 4 l[i].d.length := ⟨_, rfl⟩
  rw [← hL] at p4
  have hLl : L.length = bs.length + 12 := by rw [hL]; simp
  have ap := append_bytes (c := c) (l := L) (m := l[i].d) (o := ow l[i].f) (es := 1) (by simp [esOk])
    (A := wr (B ++ [.cells [.int .u64 l[i].c, .sl (ow l[i].f) 1 (strBytes l[i].d)]]) k c L) (wr_c (by simp; omega) hkc) (by omega)
  have pu := wr_push (B := B ++ [.cells [.int .u64 l[i].c, .sl (ow l[i].f) 1 (strBytes l[i].d)]]) (k := k) (c := c) (by simp; omega) (by simp; omega) hkc L l[i].d
  have lk := fun bs => wr_loadk (B := B ++ [.cells [.int .u64 l[i].c, .sl (ow l[i].f) 1 (strBytes l[i].d)]]) (k := k) (c := c) (by simp; omega) bs
  unfold f18_s0
  (repeat (first | (first | with_reducible refine qdn ?_ | with_reducible refine qdp ?_ | with_reducible refine qdq ?_ | with_reducible refine qdt ?_ | with_reducible refine qdo ?_ | with_reducible refine qc0 ?_ | with_reducible refine qdg ?_ | with_reducible refine qbq ?_ | with_reducible refine qdw ?_ | with_reducible refine qdx ?_ | with_reducible refine qdr ?_ | with_reducible refine qds ?_ | with_reducible refine qdv ?_ | with_reducible refine qdu ?_ | with_reducible refine qdf ?_) | ((conv => lhs; arg 1; simp (disch := first | omega | assumption) only [qc7, qde, qb3, qbc, qap, qb4, qch, Sum.elim_inl, Sum.elim_inr, Option.map_some, Option.map_none, Option.bind_some, Option.bind_none, Option.bind_eq_bind, qd0, qdz, qcy, qcq, qcs, qct, qcu, qcv, qcw, qcx, qcr, shl8, or8, shr8, qbw, qbr, qbo, qcm, qbn, qb6, qco, qcn, qbp, qa6, qaz, qau, qaj, qdm, qdk, qdj, qdl, qbt, qbu, qbv, qb5, qci, qcj, qck, qcl, qd3, qd4, qd1, qd2, qaa, qbg, qba, qar, qak, qae, qaf, qaw, qb9, qbx, qbe, qbz, qbd, qcd, qbi, qcb, qc3, qce, qby, qbj, qa0, qcc, qbf, qay, qdh, qcf, qc5, qc6, qbh, qao, qb8, qa7, qa5, qaq, qah, qan, qa4, qa3, qat, qai, qad, qac, qab, qb2, qa2, qbm, qb1, qb0, qa8, List.take_length, List.map_nil, List.drop_zero, List.drop_succ_cons, Nat.zero_add, Nat.add_zero, qa9, qbb, qc4, qbl, qbk, qc8, qb7, qca, qax, qa1, qas, qc1, qbs, qdb, qcp, qal, qam, qag, qav, cond_true, cond_false, qcz, qc9, qc2, qdd, qdi, qcg, qdy, qdc, qda, ofA2, ofA3, ofA4, ofA6, packD, List.take_left, List.length_append, List.length_cons, List.length_nil, List.length_set, index_sh, wr_app, wr_load_last, wr_store_sh, p8, p4, lk, ap, pu]); (first | with_reducible refine qdn ?_ | with_reducible refine qdp ?_ | with_reducible refine qdq ?_ | with_reducible refine qdt ?_ | with_reducible refine qdo ?_ | with_reducible refine qc0 ?_ | with_reducible refine qdg ?_ | with_reducible refine qbq ?_ | with_reducible refine qdw ?_ | with_reducible refine qdx ?_ | with_reducible refine qdr ?_ | with_reducible refine qds ?_ | with_reducible refine qdv ?_ | with_reducible refine qdu ?_ | with_reducible refine qdf ?_))))
  simp (disch := first | omega | assumption) only [qc7, qde, qb3, qbc, qap, qb4, qch, Sum.elim_inl, Sum.elim_inr, Option.map_some, Option.map_none, Option.bind_some, Option.bind_none, Option.bind_eq_bind, qd0, qdz, qcy, qcq, qcs, qct, qcu, qcv, qcw, qcx, qcr, shl8, or8, shr8, qbw, qbr, qbo, qcm, qbn, qb6, qco, qcn, qbp, qa6, qaz, qau, qaj, qdm, qdk, qdj, qdl, qbt, qbu, qbv, qb5, qci, qcj, qck, qcl, qd3, qd4, qd1, qd2, qaa, qbg, qba, qar, qak, qae, qaf, qaw, qb9, qbx, qbe, qbz, qbd, qcd, qbi, qcb, qc3, qce, qby, qbj, qa0, qcc, qbf, qay, qdh, qcf, qc5, qc6, qbh, qao, qb8, qa7, qa5, qaq, qah, qan, qa4, qa3, qat, qai, qad, qac, qab, qb2, qa2, qbm, qb1, qb0, qa8, List.take_length, List.map_nil, List.drop_zero, List.drop_succ_cons, Nat.zero_add, Nat.add_zero, qa9, qbb, qc4, qbl, qbk, qc8, qb7, qca, qax, qa1, qas, qc1, qbs, qdb, qcp, qal, qam, qag, qav, cond_true, cond_false, qcz, qc9, qc2, qdd, qdi, qcg, qdy, qdc, qda, ofA2, ofA3, ofA4, ofA6, packD, List.take_left, List.length_append, List.length_cons, List.length_nil, List.length_set, shutL_sh, wr_Kept_app, wr_take_app]
  rw [hL]
  simp only [shB, List.append_assoc]
  rfl
theorem s18_sh_end (A B : St) (hK : ∀ k c bs, A.length ≤ k → A.length ≤ c → Kept A (wr B k c bs)) (hT : ∀ k c bs, A.length ≤ k → A.length ≤ c → (wr B k c bs).take A.length = A) (k c : Nat) (hk : k < B.length) (hkA : A.length ≤ k) (hcA : A.length ≤ c) (l : Shares) (o : Own) (bs : List UInt8) (i : Nat) (hi : i = l.length) :
    f18_s0 (Run Try.prog codecH) (Dcall Try.prog codecH) A (Env.mk [D.any, D.any, D.any, D.any, D.any, .ref k 0, D.any, D.any, D.any, D.any, D.any, D.any, D.any, D.any, D.any, D.any, D.any, D.any, D.any, D.any, D.any, D.any, D.any, D.any, D.any, D.any, D.any, D.any, D.any, D.any, D.any, D.any, D.any, D.any, D.any, D.any, D.any, D.any, D.any, D.any, D.any, D.any, D.any, D.any, D.any, D.any, D.any, D.any, D.any, D.any, D.any, D.any, D.any, D.any, D.any, D.any, D.any, D.any, D.any, D.any, D.any, D.any, D.any, D.any, .sl o 2 (sharesD l), .int .i64 l.length, .int .i64 i, D.any, D.any, D.any, D.any, D.any, D.any, D.any, D.any, D.any, D.any, D.any, D.any, D.any, D.any, D.any, D.any, D.any, D.any, D.any, D.any, D.any, D.any, D.any, D.any, D.any, D.any, D.any, D.any, D.any, D.any] []) (wr B k c bs) = some (.inr (.ret (.tup [.sl .sh 1 (strBytes bs), .int .i64 0]), A)) := by
  subst hi
  have kp := iff_true_intro (hK k c bs hkA hcA)
  have tk := hT k c bs hkA hcA
  unfold f18_s0
  simp (disch := first | omega | assumption) only [qc7, qde, qb3, qbc, qap, qb4, qch, Sum.elim_inl, Sum.elim_inr, Option.map_some, Option.map_none, Option.bind_some, Option.bind_none, Option.bind_eq_bind, qd0, qdz, qcy, qcq, qcs, qct, qcu, qcv, qcw, qcx, qcr, shl8, or8, shr8, qbw, qbr, qbo, qcm, qbn, qb6, qco, qcn, qbp, qa6, qaz, qau, qaj, qdm, qdk, qdj, qdl, qbt, qbu, qbv, qb5, qci, qcj, qck, qcl, qd3, qd4, qd1, qd2, qaa, qbg, qba, qar, qak, qae, qaf, qaw, qb9, qbx, qbe, qbz, qbd, qcd, qbi, qcb, qc3, qce, qby, qbj, qa0, qcc, qbf, qay, qdh, qcf, qc5, qc6, qbh, qao, qb8, qa7, qa5, qaq, qah, qan, qa4, qa3, qat, qai, qad, qac, qab, qb2, qa2, qbm, qb1, qb0, qa8, List.take_length, List.map_nil, List.drop_zero, List.drop_succ_cons, Nat.zero_add, Nat.add_zero, qa9, qbb, qc4, qbl, qbk, qc8, qb7, qca, qax, qa1, qas, qc1, qbs, qdb, qcp, qal, qam, qag, qav, cond_true, cond_false, qcz, qc9, qc2, qdd, qdi, qcg, qdy, qdc, qda, ofA2, ofA3, ofA4, ofA6, packD, List.take_left, List.length_append, List.length_cons, List.length_nil, List.length_set, wr_loadk, kp, tk]
theorem s18_shs (A B : St) (hK : ∀ k c bs, A.length ≤ k → A.length ≤ c → Kept A (wr B k c bs)) (hT : ∀ k c bs, A.length ≤ k → A.length ≤ c → (wr B k c bs).take A.length = A) (k c : Nat) (hk : k < B.length) (hc : c < B.length) (hkA : A.length ≤ k) (hcA : A.length ≤ c) (hkc : k ≠ c) (l : Shares) (hv : l.length ≤ 9223372036854775807) (hu : ∀ s ∈ l, s.c < 18446744073709551616) :
    ∀ (m i : Nat) (o : Own) (bs : List UInt8), i + m = l.length → bs.length + szS (l.drop i) ≤ 140737488355328 →
    iterK (f18_s0 (Run Try.prog codecH) (Dcall Try.prog codecH) A) (Env.mk [D.any, D.any, D.any, D.any, D.any, .ref k 0, D.any, D.any, D.any, D.any, D.any, D.any, D.any, D.any, D.any, D.any, D.any, D.any, D.any, D.any, D.any, D.any, D.any, D.any, D.any, D.any, D.any, D.any, D.any, D.any, D.any, D.any, D.any, D.any, D.any, D.any, D.any, D.any, D.any, D.any, D.any, D.any, D.any, D.any, D.any, D.any, D.any, D.any, D.any, D.any, D.any, D.any, D.any, D.any, D.any, D.any, D.any, D.any, D.any, D.any, D.any, D.any, D.any, D.any, .sl o 2 (sharesD l), .int .i64 l.length, .int .i64 i, D.any, D.any, D.any, D.any, D.any, D.any, D.any, D.any, D.any, D.any, D.any, D.any, D.any, D.any, D.any, D.any, D.any, D.any, D.any, D.any, D.any, D.any, D.any, D.any, D.any, D.any, D.any, D.any, D.any, D.any] []) (wr B k c bs) = some (.ret (.tup [.sl .sh 1 (strBytes (bs ++ shsB (l.drop i))), .int .i64 0]), A) := by
  intro m
  induction m with
  | zero =>
    intro i o bs hi hb
    rw [qd9, s18_sh_end A B hK hT k c hk hkA hcA l o bs i (by omega), List.drop_of_length_le (by omega)]
    simp [shsB]
  | succ m ih =>
    intro i o bs hi hb
    have hlt : i < l.length := by omega
    have hd : l.drop i = l[i] :: l.drop (i + 1) := List.drop_eq_getElem_cons hlt
    rw [hd, szS] at hb
    rw [qd9, s18_sh A B k c hk hc hkc l hv i hlt (hu _ (List.getElem_mem hlt)) o bs (by omega)]
    simp only [Option.bind_some, Sum.elim_inl]
    rw [ih (i + 1) _ _ (by omega) (by simp [shB]; omega), hd]
    simp only [shsB, List.flatMap_cons, List.append_assoc]
end Go.Vm.Codec

/- The bytes of a result: what the codec's Result comes to. -/
namespace Go.Vm.Codec
open Go.Proofs
set_option linter.unusedVariables false
set_option linter.unusedSimpArgs false
set_option maxRecDepth 10000
set_option maxHeartbeats 1000000

theorem dumpR_zero : ∀ (sh : Shares) (n : Nat), dumpR n sh = 0 → n ≤ 1048576
  | [], n, h => by
    simp only [dumpR, sizeE] at h
    split at h <;> omega
  | s :: r, n, h => by
    simp only [dumpR] at h
    split at h
    · cases h
    · exact dumpR_zero r n h
theorem cntR_zero (all : Shares) : ∀ (sh : Shares) (n : Nat), cntR n all sh = 0 → n ≤ 1048576
  | [], n, h => dumpR_zero all n h
  | s :: r, n, h => by
    simp only [cntR] at h
    split at h
    · cases h
    · exact cntR_zero all r n h
structure Fine (inv node : Int) (v : Stamps) (sh : Shares) : Prop where
  i0 : 0 ≤ inv
  i1 : inv < 64
  n0 : 0 ≤ node
  n1 : node < 16384
  w : vecOk v = true
  l : sh.length ≤ 256
  z : 11 + 10 * v.length + szS sh ≤ 1048576
theorem chk_fine {inv node : Int} {v : Stamps} {sh : Shares} (h : chkE inv node v sh = 0) : Fine inv node v sh := by
  unfold chkE at h
  split at h
  · cases h
  · rename_i h1
    split at h
    · rename_i h2
      split at h
      · cases h
      · rename_i h3
        rw [cntR_eq] at h
        exact ⟨by omega, by omega, by omega, by omega, h2, by omega, cntR_zero _ _ _ h⟩
    · cases h
theorem vecOk_dev {v : Stamps} (h : vecOk v = true) : ∀ s ∈ v, 0 ≤ s.1 ∧ s.1 < 256 := by
  intro s hs
  unfold vecOk at h
  simp only [Bool.and_eq_true, Bool.not_eq_true', List.any_eq_false] at h
  have := h.2 s hs
  simp only [isDev, Bool.not_eq_true', Bool.not_eq_false, Bool.and_eq_true, decide_eq_true_eq] at this
  exact this
theorem s18_sts (A B : St) (hK : ∀ k c bs, A.length ≤ k → A.length ≤ c → Kept A (wr B k c bs)) (hT : ∀ k c bs, A.length ≤ k → A.length ≤ c → (wr B k c bs).take A.length = A) (k c : Nat) (hk : k < B.length) (hc : c < B.length) (hkA : A.length < k) (hcA : A.length < c) (hkc : k ≠ c)
    (inv node : Int) (vo so : Own) (v : Stamps) (l : Shares) (h0 : B[A.length]? = some (.cells [.int .i64 inv, .int .i64 node, .sl vo 2 (stampsD v), .sl so 2 (sharesD l)]))
    (hv : v.length ≤ 1048576) (hl : l.length ≤ 1048576) (hu : ∀ s ∈ l, s.c < 18446744073709551616) (hvu : ∀ s ∈ v, s.2 < 18446744073709551616) (hd : ∀ s ∈ v, 0 ≤ s.1 ∧ s.1 < 256) :
    ∀ (m i : Nat) (o : Own) (bs : List UInt8), i + m = v.length → bs.length + 10 * m + 2 + szS l ≤ 140737488355328 →
    iterK (f18_s1 (Run Try.prog codecH) (Dcall Try.prog codecH) A) (Env.mk [D.any, .ref A.length 0, D.any, D.any, D.any, .ref k 0, D.any, D.any, D.any, D.any, D.any, D.any, D.any, D.any, D.any, D.any, D.any, D.any, D.any, D.any, D.any, D.any, D.any, D.any, D.any, D.any, D.any, D.any, D.any, D.any, D.any, D.any, D.any, D.any, D.any, D.any, D.any, D.any, .sl o 2 (stampsD v), .int .i64 v.length, .int .i64 i, D.any, D.any, D.any, D.any, D.any, D.any, D.any, D.any, D.any, D.any, D.any, D.any, D.any, D.any, D.any, D.any, D.any, D.any, D.any, D.any, D.any, D.any, D.any, D.any, D.any, D.any, D.any, D.any, D.any, D.any, D.any, D.any, D.any, D.any, D.any, D.any, D.any, D.any, D.any, D.any, D.any, D.any, D.any, D.any, D.any, D.any, D.any, D.any, D.any, D.any, D.any, D.any, D.any, D.any, D.any, D.any] []) (wr B k c bs) =
      some (.ret (.tup [.sl .sh 1 (strBytes (bs ++ stsB (v.drop i) ++ be 2 l.length ++ shsB l)), .int .i64 0]), A) := by
  intro m
  induction m with
  | zero =>
    intro i o bs hi hb
    have p2 := put2 B k c l.length bs hk hc hkc (by omega)
    have ld := fun bs => wr_load_old (B := B) (k := k) (c := c) h0 (by omega) (by omega) bs
    have hs := s18_shs A B hK hT k c hk hc (by omega) (by omega) hkc l (by omega) hu l.length 0 so (bs ++ be 2 l.length) (by omega) (by simp; omega)
    have hs' : iterK (f18_s0 (Run Try.prog codecH) (Dcall Try.prog codecH) A) (Env.mk [D.any, D.any, D.any, D.any, D.any, .ref k 0, D.any, D.any, D.any, D.any, D.any, D.any, D.any, D.any, D.any, D.any, D.any, D.any, D.any, D.any, D.any, D.any, D.any, D.any, D.any, D.any, D.any, D.any, D.any, D.any, D.any, D.any, D.any, D.any, D.any, D.any, D.any, D.any, D.any, D.any, D.any, D.any, D.any, D.any, D.any, D.any, D.any, D.any, D.any, D.any, D.any, D.any, D.any, D.any, D.any, D.any, D.any, D.any, D.any, D.any, D.any, D.any, D.any, D.any, .sl so 2 (sharesD l), .int .i64 l.length, .int .i64 0, D.any, D.any, D.any, D.any, D.any, D.any, D.any, D.any, D.any, D.any, D.any, D.any, D.any, D.any, D.any, D.any, D.any, D.any, D.any, D.any, D.any, D.any, D.any, D.any, D.any, D.any, D.any, D.any, D.any, D.any] []) (wr B k c (bs ++ be 2 l.length)) = some (.ret (.tup [.sl .sh 1 (strBytes (bs ++ be 2 l.length ++ shsB l)), .int .i64 0]), A) := hs
    have hstep : f18_s1 (Run Try.prog codecH) (Dcall Try.prog codecH) A (Env.mk [D.any, .ref A.length 0, D.any, D.any, D.any, .ref k 0, D.any, D.any, D.any, D.any, D.any, D.any, D.any, D.any, D.any, D.any, D.any, D.any, D.any, D.any, D.any, D.any, D.any, D.any, D.any, D.any, D.any, D.any, D.any, D.any, D.any, D.any, D.any, D.any, D.any, D.any, D.any, D.any, .sl o 2 (stampsD v), .int .i64 v.length, .int .i64 i, D.any, D.any, D.any, D.any, D.any, D.any, D.any, D.any, D.any, D.any, D.any, D.any, D.any, D.any, D.any, D.any, D.any, D.any, D.any, D.any, D.any, D.any, D.any, D.any, D.any, D.any, D.any, D.any, D.any, D.any, D.any, D.any, D.any, D.any, D.any, D.any, D.any, D.any, D.any, D.any, D.any, D.any, D.any, D.any, D.any, D.any, D.any, D.any, D.any, D.any, D.any, D.any, D.any, D.any, D.any, D.any] []) (wr B k c bs) = some (.inr (.ret (.tup [.sl .sh 1 (strBytes (bs ++ be 2 l.length ++ shsB l)), .int .i64 0]), A)) := by
      unfold f18_s1
      simp (disch := first | omega | assumption) only [qc7, qde, qb3, qbc, qap, qb4, qch, Sum.elim_inl, Sum.elim_inr, Option.map_some, Option.map_none, Option.bind_some, Option.bind_none, Option.bind_eq_bind, qd0, qdz, qcy, qcq, qcs, qct, qcu, qcv, qcw, qcx, qcr, shl8, or8, shr8, qbw, qbr, qbo, qcm, qbn, qb6, qco, qcn, qbp, qa6, qaz, qau, qaj, qdm, qdk, qdj, qdl, qbt, qbu, qbv, qb5, qci, qcj, qck, qcl, qd3, qd4, qd1, qd2, qaa, qbg, qba, qar, qak, qae, qaf, qaw, qb9, qbx, qbe, qbz, qbd, qcd, qbi, qcb, qc3, qce, qby, qbj, qa0, qcc, qbf, qay, qdh, qcf, qc5, qc6, qbh, qao, qb8, qa7, qa5, qaq, qah, qan, qa4, qa3, qat, qai, qad, qac, qab, qb2, qa2, qbm, qb1, qb0, qa8, List.take_length, List.map_nil, List.drop_zero, List.drop_succ_cons, Nat.zero_add, Nat.add_zero, qa9, qbb, qc4, qbl, qbk, qc8, qb7, qca, qax, qa1, qas, qc1, qbs, qdb, qcp, qal, qam, qag, qav, cond_true, cond_false, qcz, qc9, qc2, qdd, qdi, qcg, qdy, qdc, qda, ofA2, ofA3, ofA4, ofA6, packD, List.take_left, List.length_append, List.length_cons, List.length_nil, List.length_set, ld, sharesD_length, p2]
      rw [hs']
      rfl
    rw [qd9, hstep, List.drop_of_length_le (by omega)]
    simp [stsB]
  | succ m ih =>
    intro i o bs hi hb
    have hlt : i < v.length := by omega
    have hdr : v.drop i = v[i] :: v.drop (i + 1) := List.drop_eq_getElem_cons hlt
    have hdi := hd _ (List.getElem_mem hlt)
    rw [qd9, s18_st A B k c hk hc hkc v (by omega) i A.length hlt (by omega) hdi.1 hdi.2 (hvu _ (List.getElem_mem hlt)) o bs (by omega)]
    simp only [Option.bind_some, Sum.elim_inl]
    rw [ih (i + 1) _ _ (by omega) (by simp [stB]; omega), hdr]
    simp only [stsB, List.flatMap_cons, List.append_assoc]
def resBytes (inv node : Int) (v : Stamps) (l : Shares) : List UInt8 := [82] ++ be 2 inv.toNat ++ be 4 node.toNat ++ be 2 v.length ++ stsB v ++ be 2 l.length ++ shsB l
end Go.Vm.Codec

/- What the codec's Result comes to, where a result may be. -/
namespace Go.Vm.Codec
open Go.Proofs
set_option linter.unusedVariables false
set_option linter.unusedSimpArgs false
set_option maxRecDepth 10000
set_option maxHeartbeats 1000000

theorem s18 (A : St) (inv node : Int) (vo so : Own) (v : Stamps) (l : Shares) (hE : chkE inv node v l = 0) (hu : ∀ s ∈ l, s.c < 18446744073709551616) (hvu : ∀ s ∈ v, s.2 < 18446744073709551616) :
    Run Try.prog codecH 18 [resD inv node vo v so l] A = some (.ret (.tup [.sl .sh 1 (strBytes (resBytes inv node v l)), .int .i64 0]), A) := by
  have F := chk_fine hE
  have hz := F.z
  have hll := F.l
  rw [r18]
  unfold f18
  have hbx : boxO true (resD inv node vo v so l) A = some (.ref A.length 0, A ++ [.cells (resC inv node vo v so l)]) := box_agg A rfl
  have hld : loadO true 4 (.ref A.length 0) (A ++ [.cells (resC inv node vo v so l)]) = some (resD inv node vo v so l) := by rw [load_last]; rfl
  have h20 := fun A => s20 A inv node vo v so l (by omega) (by omega) (by omega)
  rw [hE] at h20
  (repeat (first | (first | with_reducible refine qdn ?_ | with_reducible refine qdp ?_ | with_reducible refine qdq ?_ | with_reducible refine qdt ?_ | with_reducible refine qdo ?_ | with_reducible refine qc0 ?_ | with_reducible refine qdg ?_ | with_reducible refine qbq ?_ | with_reducible refine qdw ?_ | with_reducible refine qdx ?_ | with_reducible refine qdr ?_ | with_reducible refine qds ?_ | with_reducible refine qdv ?_ | with_reducible refine qdu ?_ | with_reducible refine qdf ?_) | ((conv => lhs; arg 1; simp (disch := first | omega | assumption) only [qc7, qde, qb3, qbc, qap, qb4, qch, Sum.elim_inl, Sum.elim_inr, Option.map_some, Option.map_none, Option.bind_some, Option.bind_none, Option.bind_eq_bind, qd0, qdz, qcy, qcq, qcs, qct, qcu, qcv, qcw, qcx, qcr, shl8, or8, shr8, qbw, qbr, qbo, qcm, qbn, qb6, qco, qcn, qbp, qa6, qaz, qau, qaj, qdm, qdk, qdj, qdl, qbt, qbu, qbv, qb5, qci, qcj, qck, qcl, qd3, qd4, qd1, qd2, qaa, qbg, qba, qar, qak, qae, qaf, qaw, qb9, qbx, qbe, qbz, qbd, qcd, qbi, qcb, qc3, qce, qby, qbj, qa0, qcc, qbf, qay, qdh, qcf, qc5, qc6, qbh, qao, qb8, qa7, qa5, qaq, qah, qan, qa4, qa3, qat, qai, qad, qac, qab, qb2, qa2, qbm, qb1, qb0, qa8, List.take_length, List.map_nil, List.drop_zero, List.drop_succ_cons, Nat.zero_add, Nat.add_zero, qa9, qbb, qc4, qbl, qbk, qc8, qb7, qca, qax, qa1, qas, qc1, qbs, qdb, qcp, qal, qam, qag, qav, cond_true, cond_false, qcz, qc9, qc2, qdd, qdi, qcg, qdy, qdc, qda, ofA2, ofA3, ofA4, ofA6, packD, List.take_left, List.length_append, List.length_cons, List.length_nil, List.length_set, hbx, hld, h20]); (first | with_reducible refine qdn ?_ | with_reducible refine qdp ?_ | with_reducible refine qdq ?_ | with_reducible refine qdt ?_ | with_reducible refine qdo ?_ | with_reducible refine qc0 ?_ | with_reducible refine qdg ?_ | with_reducible refine qbq ?_ | with_reducible refine qdw ?_ | with_reducible refine qdx ?_ | with_reducible refine qdr ?_ | with_reducible refine qds ?_ | with_reducible refine qdv ?_ | with_reducible refine qdu ?_ | with_reducible refine qdf ?_))))
  obtain ⟨B, hB⟩ : ∃ B, B = A ++ [Slot.cells (resC inv node vo v so l)] ++ [Slot.tok (0 + 1)] ++ [Slot.cells [D.sl (Own.own (A.length + 1) 0) 1 [D.int IntKind.u8 82]]] := ⟨_, rfl⟩
  simp only [qc7, qde, qb3, qbc, qap, qb4, qch, Sum.elim_inl, Sum.elim_inr, Option.map_some, Option.map_none, Option.bind_some, Option.bind_none, Option.bind_eq_bind, qd0, qdz, qcy, qcq, qcs, qct, qcu, qcv, qcw, qcx, qcr, shl8, or8, shr8, qbw, qbr, qbo, qcm, qbn, qb6, qco, qcn, qbp, qa6, qaz, qau, qaj, qdm, qdk, qdj, qdl, qbt, qbu, qbv, qb5, qci, qcj, qck, qcl, qd3, qd4, qd1, qd2, qaa, qbg, qba, qar, qak, qae, qaf, qaw, qb9, qbx, qbe, qbz, qbd, qcd, qbi, qcb, qc3, qce, qby, qbj, qa0, qcc, qbf, qay, qdh, qcf, qc5, qc6, qbh, qao, qb8, qa7, qa5, qaq, qah, qan, qa4, qa3, qat, qai, qad, qac, qab, qb2, qa2, qbm, qb1, qb0, qa8, List.take_length, List.map_nil, List.drop_zero, List.drop_succ_cons, Nat.zero_add, Nat.add_zero, qa9, qbb, qc4, qbl, qbk, qc8, qb7, qca, qax, qa1, qas, qc1, qbs, qdb, qcp, qal, qam, qag, qav, cond_true, cond_false, qcz, qc9, qc2, qdd, qdi, qcg, qdy, qdc, qda, ofA2, ofA3, ofA4, ofA6, packD, List.take_left, List.length_append, List.length_cons, List.length_nil, List.length_set]
  rw [show (A ++ [Slot.cells (resC inv node vo v so l)] ++ [Slot.tok 1] ++ [Slot.cells [D.sl (Own.own (A.length + 1) 0) 1 [D.int IntKind.u8 82]]]) = B from hB.symm]
  have hl : B.length = A.length + 3 := by rw [hB]; simp
  have hK : Kept A B := by rw [hB, List.append_assoc, List.append_assoc]; exact (qao A _).2 trivial
  have hT : B.take A.length = A := by rw [hB, List.append_assoc, List.append_assoc]; exact List.take_left
  have e82 : [D.int IntKind.u8 82] = strBytes [82] := rfl
  have g0 : B[A.length]? = some (.cells [.int .i64 inv, .int .i64 node, .sl vo 2 (stampsD v), .sl so 2 (sharesD l)]) := by rw [hB, List.append_assoc, List.append_assoc, get_app _ _ _ 0 (by omega)]; rfl
  have g1 : B[A.length + 1]? = some (.tok ([82] : List UInt8).length) := by rw [hB, List.append_assoc, List.append_assoc, get_app _ _ _ 1 (by omega)]; rfl
  have g2 : B[A.length + 1 + 1]? = some (.cells [.sl (.own (A.length + 1) 0) 1 (strBytes [82])]) := by rw [hB, ← e82, List.append_assoc, List.append_assoc, get_app _ _ _ 2 (by omega)]; rfl
  have hw : B = wr B (A.length + 1 + 1) (A.length + 1) [82] := (wr_self g2 g1).symm
  have ld := fun bs => wr_load_old (B := B) (k := A.length + 1 + 1) (c := A.length + 1) g0 (by omega) (by omega) bs
  have hi : ((inv.toNat : Nat) : Int) = inv := Int.toNat_of_nonneg F.i0
  have hno : ((node.toNat : Nat) : Int) = node := Int.toNat_of_nonneg F.n0
  have i0 := F.i0
  have i1 := F.i1
  have n0 := F.n0
  have n1 := F.n1
  have p1 := put2 B (A.length + 1 + 1) (A.length + 1) inv.toNat [82] (by omega) (by omega) (by omega) (by simp)
  have p2 := put4 B (A.length + 1 + 1) (A.length + 1) node.toNat ([82] ++ be 2 inv.toNat) (by omega) (by omega) (by omega) (by simp)
  have p3 := put2 B (A.length + 1 + 1) (A.length + 1) v.length ([82] ++ be 2 inv.toNat ++ be 4 node.toNat) (by omega) (by omega) (by omega) (by simp)
  rw [hi] at p1
  rw [hno] at p2
  have fin := s18_sts A B (fun k c bs h1 h2 => Kept_wr_new hK h1 h2 bs) (fun k c bs h1 h2 => take_wr_new hT h1 h2 bs) (A.length + 1 + 1) (A.length + 1) (by omega) (by omega) (by omega) (by omega) (by omega)
    inv node vo so v l g0 (by omega) (by omega) hu hvu (vecOk_dev F.w) v.length 0 vo ([82] ++ be 2 inv.toNat ++ be 4 node.toNat ++ be 2 v.length) (by omega) (by simp; omega)
  rw [hw]
  (repeat (first | (first | with_reducible refine qdn ?_ | with_reducible refine qdp ?_ | with_reducible refine qdq ?_ | with_reducible refine qdt ?_ | with_reducible refine qdo ?_ | with_reducible refine qc0 ?_ | with_reducible refine qdg ?_ | with_reducible refine qbq ?_ | with_reducible refine qdw ?_ | with_reducible refine qdx ?_ | with_reducible refine qdr ?_ | with_reducible refine qds ?_ | with_reducible refine qdv ?_ | with_reducible refine qdu ?_ | with_reducible refine qdf ?_) | ((conv => lhs; arg 1; simp (disch := first | omega | assumption) only [qc7, qde, qb3, qbc, qap, qb4, qch, Sum.elim_inl, Sum.elim_inr, Option.map_some, Option.map_none, Option.bind_some, Option.bind_none, Option.bind_eq_bind, qd0, qdz, qcy, qcq, qcs, qct, qcu, qcv, qcw, qcx, qcr, shl8, or8, shr8, qbw, qbr, qbo, qcm, qbn, qb6, qco, qcn, qbp, qa6, qaz, qau, qaj, qdm, qdk, qdj, qdl, qbt, qbu, qbv, qb5, qci, qcj, qck, qcl, qd3, qd4, qd1, qd2, qaa, qbg, qba, qar, qak, qae, qaf, qaw, qb9, qbx, qbe, qbz, qbd, qcd, qbi, qcb, qc3, qce, qby, qbj, qa0, qcc, qbf, qay, qdh, qcf, qc5, qc6, qbh, qao, qb8, qa7, qa5, qaq, qah, qan, qa4, qa3, qat, qai, qad, qac, qab, qb2, qa2, qbm, qb1, qb0, qa8, List.take_length, List.map_nil, List.drop_zero, List.drop_succ_cons, Nat.zero_add, Nat.add_zero, qa9, qbb, qc4, qbl, qbk, qc8, qb7, qca, qax, qa1, qas, qc1, qbs, qdb, qcp, qal, qam, qag, qav, cond_true, cond_false, qcz, qc9, qc2, qdd, qdi, qcg, qdy, qdc, qda, ofA2, ofA3, ofA4, ofA6, packD, List.take_left, List.length_append, List.length_cons, List.length_nil, List.length_set, ld, p1, p2, p3, stampsD_length]); (first | with_reducible refine qdn ?_ | with_reducible refine qdp ?_ | with_reducible refine qdq ?_ | with_reducible refine qdt ?_ | with_reducible refine qdo ?_ | with_reducible refine qc0 ?_ | with_reducible refine qdg ?_ | with_reducible refine qbq ?_ | with_reducible refine qdw ?_ | with_reducible refine qdx ?_ | with_reducible refine qdr ?_ | with_reducible refine qds ?_ | with_reducible refine qdv ?_ | with_reducible refine qdu ?_ | with_reducible refine qdf ?_))))
  simp only [qc7, qde, qb3, qbc, qap, qb4, qch, Sum.elim_inl, Sum.elim_inr, Option.map_some, Option.map_none, Option.bind_some, Option.bind_none, Option.bind_eq_bind, qd0, qdz, qcy, qcq, qcs, qct, qcu, qcv, qcw, qcx, qcr, shl8, or8, shr8, qbw, qbr, qbo, qcm, qbn, qb6, qco, qcn, qbp, qa6, qaz, qau, qaj, qdm, qdk, qdj, qdl, qbt, qbu, qbv, qb5, qci, qcj, qck, qcl, qd3, qd4, qd1, qd2, qaa, qbg, qba, qar, qak, qae, qaf, qaw, qb9, qbx, qbe, qbz, qbd, qcd, qbi, qcb, qc3, qce, qby, qbj, qa0, qcc, qbf, qay, qdh, qcf, qc5, qc6, qbh, qao, qb8, qa7, qa5, qaq, qah, qan, qa4, qa3, qat, qai, qad, qac, qab, qb2, qa2, qbm, qb1, qb0, qa8, List.take_length, List.map_nil, List.drop_zero, List.drop_succ_cons, Nat.zero_add, Nat.add_zero, qa9, qbb, qc4, qbl, qbk, qc8, qb7, qca, qax, qa1, qas, qc1, qbs, qdb, qcp, qal, qam, qag, qav, cond_true, cond_false, qcz, qc9, qc2, qdd, qdi, qcg, qdy, qdc, qda, ofA2, ofA3, ofA4, ofA6, packD, List.take_left, List.length_append, List.length_cons, List.length_nil, List.length_set]
  exact fin
end Go.Vm.Codec
