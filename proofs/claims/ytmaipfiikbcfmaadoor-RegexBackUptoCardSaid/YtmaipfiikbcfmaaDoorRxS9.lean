/- What the reference's tests of expressions come to. -/
import Derived.Test.YtmaipfiikbcfmaaDoorRxS8
set_option linter.all false
namespace Go.Vm.Rx
open Go Go.Proofs P
set_option linter.unusedVariables false
set_option linter.unusedSimpArgs false
set_option maxRecDepth 10000
set_option maxHeartbeats 1000000
mutual
def encRx : Rx → D | .mk op nm ks => .agg [.int .i64 op, .str nm, encL 3 (encRxs ks)]
def encRxs : List Rx → List D | [] => [] | r :: rs => encRx r :: encRxs rs
end
theorem encRxs_eq : ∀ l, encRxs l = l.map encRx
  | [] => rfl
  | r :: rs => by simp [encRxs, encRxs_eq rs]
theorem encRx_eq (r : Rx) : encRx r = .agg [.int .i64 r.op, .str r.nm, encL 3 (r.ks.map encRx)] := by
  cases r with
  | mk op nm ks => rw [encRx, encRxs_eq]; rfl
mutual
theorem plainRx : ∀ r, Plain (encRx r)
  | .mk op nm ks => by
    have h := encL_plain (plainRxs0 ks) 3
    refine ⟨fun n => ?_, ?_⟩
    · rw [encRx]; simp [h.shut]
    · rw [encRx]; simp [canon_agg, qan, qat, h.canon]
theorem plainRxs0 : ∀ l, PlainL (encRxs l)
  | [] => ⟨fun _ => rfl, rfl⟩
  | r :: rs => ⟨fun n => by rw [encRxs, qar, (plainRx r).shut, (plainRxs0 rs).shut], by rw [encRxs, qan, (plainRx r).canon, (plainRxs0 rs).canon]⟩
end
theorem plainRxs (l : List Rx) : PlainL (l.map encRx) := PlainL.map plainRx l
theorem qbd (r : Rx) : D.agg [.int .i64 r.op, .str r.nm, encL 3 (r.ks.map encRx)] = encRx r := (encRx_eq r).symm
theorem rx_cell (r : Rx) : (encRx r).cellsT true = some [.int .i64 r.op, .str r.nm, encL 3 (r.ks.map encRx)] := by rw [encRx_eq]; rfl
theorem rx_box (r : Rx) (A : St) : boxO true (encRx r) A = some (.ref A.length 0, A ++ [.cells [.int .i64 r.op, .str r.nm, encL 3 (r.ks.map encRx)]]) := by rw [encRx_eq]; rfl
theorem qa7 (r : Rx) : (encRx r).canon = encRx r := (plainRx r).canon
theorem rx_shut (r : Rx) (n : Nat) : (encRx r).shut n = encRx r := (plainRx r).shut n
theorem rxs_canon (l : List Rx) (n : Nat) : (encL n (l.map encRx)).canon = encL n (l.map encRx) := (encL_plain (plainRxs l) n).canon
theorem rxs_shut (l : List Rx) (n m : Nat) : (encL n (l.map encRx)).shut m = encL n (l.map encRx) := (encL_plain (plainRxs l) n).shut m
theorem drop_mem {α : Type} {l t : List α} {i : Nat} {x : α} (h : l.drop i = x :: t) : x ∈ l := List.mem_of_mem_drop (i := i) (by rw [h]; simp)

theorem nodeOk_int (op : Int) (nm : Str) (ks : List Rx) : nodeOk op nm ks =
    if op = 1 ∨ op = 2 then isName nm && decide ((ks.length : Int) = 0)
    else if op = 3 then decide (nm = []) && decide ((ks.length : Int) = 0)
    else if op = 4 then decide (nm = []) && !decide ((ks.length : Int) = 1) && !hasOp 4 ks
    else if op = 5 then decide (nm = []) && decide ((ks.length : Int) ≥ 2) && !hasOp 5 ks
    else if op = 6 ∨ op = 7 ∨ op = 8 then decide (nm = []) && decide ((ks.length : Int) = 1)
    else false := by
  have e0 : (ks.length == 0) = decide ((ks.length : Int) = 0) := by rw [Bool.eq_iff_iff]; simp
  have e1 : (ks.length == 1) = decide ((ks.length : Int) = 1) := by rw [Bool.eq_iff_iff]; simp; omega
  have e2 : (ks.length != 1) = !decide ((ks.length : Int) = 1) := by unfold bne; rw [e1]
  have e3 : decide (2 ≤ ks.length) = decide ((ks.length : Int) ≥ 2) := by rw [Bool.eq_iff_iff]; simp; omega
  have e4 : (nm == []) = decide (nm = []) := by rw [Bool.eq_iff_iff]; simp
  unfold nodeOk
  rw [e0, e1, e2, e3, e4]
/-! deeper -/
/-! right -/
/-! sized -/
def sizedOut (most deep : Int) (size depth : Int) (A : St) (x : Res × St) : Prop :=
  ∃ n d : Int, x = (.ret (.tup [.int .i64 n, .int .i64 d]), A) ∧ (size ≤ most ∧ depth ≤ deep → n = size ∧ d = depth) ∧ (¬ (size ≤ most ∧ depth ≤ deep) → n = most + 1) ∧ 0 ≤ n ∧ 0 ≤ d ∧ d ≤ max deep 0
theorem s35_loop (A : St) (r : Rx) (hr : r.Ok) (most deep : Int) (hm : 0 ≤ most) (hm2 : most ≤ 1000000) (hd1 : 1 ≤ deep) (hd2 : deep ≤ 1000000)
    (hk : ∀ k, k ∈ r.ks → ∀ m, 0 ≤ m → m ≤ 1000000 → ∀ A, Tot (sizedOut m (deep - 1) k.size k.depth A) (f35 mL (Run Tryd.prog rxA) (Dcall Tryd.prog rxA) (encRx k) (.int .i64 m) (.int .i64 (deep - 1)) A)) :
    ∀ (t : List Rx) (i : Nat) (n d : Int), r.ks.drop i = t → 0 ≤ n → n ≤ most + 1 → 0 ≤ d → d ≤ deep - 1 →
    Tot (sizedOut most deep (n + (Rx.sizes t : Int)) (max d (Rx.depths t : Int) + 1) A) (iterK (f35_s0 mL (Run Tryd.prog rxA) (Dcall Tryd.prog rxA) A) (Env.mk (sp [(1, .int .i64 most), (0, .int .i64 deep), (0, .ref A.length 0), (4, .int .i64 n), (0, .int .i64 d), (0, .int .i64 (i : Nat))] 42) []) (A ++ [.cells [.int .i64 r.op, .str r.nm, encL 3 (r.ks.map encRx)]])) := by
  intro t
  have hl := hr.len
  have hsh : (D.ref A.length 0).shut (A.length + 1) = .ref A.length 0 := shut_ref _ (by omega)
  induction t with
  | nil =>
    intro i n d ht h1 h2 h3 h4
    have hl1 := drop_len ht
    refine Tot.iter ?_
    conv => arg 2; arg 1; unfold f35_s0
    (repeat' first | (with_reducible first | apply Tot.of (qaa rfl) | apply Tot.of (qaq rfl) | apply Tot.of (qba rfl) | apply Tot.of (qa3 rfl) | apply Tot.of (qah rfl) | apply Tot.of (st_inr rfl) | apply Tot.of (qa0 rfl) | apply Tot.gbl (b := false) | apply Tot.bql (b := false) | apply Tot.iff | apply Tot.ifft) | ((conv => arg 2; arg 1; simp (disch := first | omega | assumption) only [qaw, qac, Option.map_some, binO_add, qbi, qao, shut_tup, qay, qar, qaj, qad, qal, qaf, qa4, ofCellsS, Nat.zero_add, qa5, qbb, qbe, qai, qag, canon_tup, qat, qan, qab, qae, len_encL, qa9, ldc0, List.take_left', List.length_map]); (with_reducible first | apply Tot.of (qaa rfl) | apply Tot.bql (b := false) | (apply Tot.lss_f; omega))))
    ((try conv => arg 2; simp (disch := first | omega | assumption) only []); refine Tot.ret ?_)
    refine ⟨n, d + 1, rfl, ?_, ?_, ?_, ?_, ?_⟩ <;> (try simp only [Rx.sizes, Rx.depths]) <;> omega
  | cons k t ih =>
    intro i n d ht h1 h2 h3 h4
    have hl1 := drop_lt ht
    have hx := idx_drop (f := encRx) ht 3 true .i64
    have hsz : Rx.sizes (k :: t) = k.size + Rx.sizes t := rfl
    have hdp : Rx.depths (k :: t) = max k.depth (Rx.depths t) := rfl
    have hsp := Rx.size_pos k
    refine Tot.iter ?_
    conv => arg 2; arg 1; unfold f35_s0
    by_cases hn : n ≤ most
    · have hkk := hk k (drop_mem ht) (most - n) (by omega) (by omega)
      (repeat' first | (with_reducible first | apply Tot.of (qaa rfl) | apply Tot.of (qaq rfl) | apply Tot.of (qa3 rfl) | apply Tot.of (qah rfl) | apply Tot.gbl (b := true) | apply Tot.bql (b := true) | apply Tot.ift | apply Tot.iftt) | ((conv => arg 2; arg 1; simp (disch := first | omega | assumption) only [qa8, binO_sub, qbi, qaf, qbf, qa4, ofCellsS, Nat.zero_add, ofA3, qa5, qbb, qbe, qaz, qai, len_encL, qa9, ldc0, List.length_map, hx, rx_cell, qbd]); (with_reducible first | apply Tot.of (qaa rfl) | apply Tot.bql (b := true) | (apply Tot.lss_t; omega) | (apply Tot.leq_t; omega))))
      conv => arg 2; arg 1; simp (disch := first | omega | assumption) only [qag, qa7, r35]
      refine Tot.bn (hkk _) fun x hx => ?_
      obtain ⟨m, e, rfl, hg, hb, hm0, he0, he1⟩ := hx
      have hmm : m ≤ most - n + 1 := by
        by_cases hc : (k.size : Int) ≤ most - n ∧ (k.depth : Int) ≤ deep - 1
        · have := (hg hc).1; omega
        · have := hb hc; omega
      (repeat' first | (with_reducible first | apply Tot.of (qaa rfl) | apply Tot.of (qaq rfl) | apply Tot.of (qah rfl) | apply Tot.of (qav rfl) | apply Tot.of (st_bnsum rfl) | apply Tot.of (st_bnguard rfl) | apply Tot.of (qas rfl) | apply Tot.of (st_inl rfl) | apply Tot.of (st_bngk rfl) | apply Tot.bql (b := true) | apply Tot.bql (b := false) | apply Tot.ift | apply Tot.iff) | ((conv => arg 2; arg 1; simp (disch := first | omega | assumption) only [binO_add, qbi, qa2, qa5, qbb, qbe, qai, ext0, extS]); (with_reducible first | apply Tot.of (qaa rfl) | apply Tot.of (st_guard rfl) | (apply Tot.gtr; all_goals intro hsp))))
      · have := ih (i + 1) (n + m) e (drop_succ ht) (by omega) (by omega) (by omega) (by omega)
        conv => arg 2; simp (disch := first | omega | assumption) only [qao, List.map_nil, Nat.zero_add, List.length_append, List.length_cons, List.length_nil, qa5, qbb, qbe, take_n1, hsh]
        refine Tot.mono this fun y hy => ?_
        obtain ⟨N, D, rfl, h5, h6, h7, h8, h9⟩ := hy
        refine ⟨N, D, rfl, ?_, ?_, h7, h8, h9⟩ <;> rw [hsz, hdp] <;> omega
      · have := ih (i + 1) (n + m) d (drop_succ ht) (by omega) (by omega) (by omega) (by omega)
        conv => arg 2; simp (disch := first | omega | assumption) only [qao, List.map_nil, Nat.zero_add, List.length_append, List.length_cons, List.length_nil, qa5, qbb, qbe, take_n1, hsh]
        refine Tot.mono this fun y hy => ?_
        obtain ⟨N, D, rfl, h5, h6, h7, h8, h9⟩ := hy
        refine ⟨N, D, rfl, ?_, ?_, h7, h8, h9⟩ <;> rw [hsz, hdp] <;> omega
    · (repeat' first | (with_reducible first | apply Tot.of (qaa rfl) | apply Tot.of (qaq rfl) | apply Tot.of (qba rfl) | apply Tot.of (qa3 rfl) | apply Tot.of (qah rfl) | apply Tot.of (st_inr rfl) | apply Tot.of (qa0 rfl) | apply Tot.gbl (b := true) | apply Tot.bql (b := true) | apply Tot.iff | apply Tot.iftt) | ((conv => arg 2; arg 1; simp (disch := first | omega | assumption) only [qa8, qac, Option.map_some, binO_add, qbi, qao, shut_tup, qay, qar, qaj, qad, qal, qaf, qa4, ofCellsS, Nat.zero_add, qa5, qbb, qbe, qai, qag, canon_tup, qat, qan, qab, qae, len_encL, qa9, ldc0, List.take_left', List.length_map]); (with_reducible first | apply Tot.of (qaa rfl) | apply Tot.bql (b := false) | (apply Tot.lss_t; omega) | (apply Tot.leq_f; omega))))
      ((try conv => arg 2; simp (disch := first | omega | assumption) only []); refine Tot.ret ?_)
      refine ⟨n, d + 1, rfl, ?_, ?_, ?_, ?_, ?_⟩ <;> rw [hsz] at * <;> omega
theorem s35 : ∀ (r : Rx) (hr : r.Ok) (deep most : Int) (hd : deep ≤ 1000000) (hm0 : 0 ≤ most) (hm : most ≤ 1000000) (hd0 : 0 ≤ deep) (A : St), Tot (sizedOut most deep r.size r.depth A) (f35 mL (Run Tryd.prog rxA) (Dcall Tryd.prog rxA) (encRx r) (.int .i64 most) (.int .i64 deep) A) := by
  refine Rx.ind ?_
  intro r ih hr deep most hd hm0 hm hd0 A
  have hp := Rx.depth_pos r
  unfold f35
  (repeat' first | (with_reducible first | apply Tot.of (qak rfl) | apply Tot.of (st_it rfl) | apply Tot.bql (b := true) | apply Tot.bql (b := false) | apply Tot.ift | apply Tot.iff) | ((conv => arg 2; arg 1; simp (disch := first | omega | assumption) only [binO_add, qbi, qai, rx_box]); (with_reducible first | apply Tot.of (qaa rfl) | (apply Tot.leq; all_goals intro hsp))))
  · ((try conv => arg 2; simp (disch := first | omega | assumption) only [qac, qao, shut_tup, qay, qar, qaj, qad, qai, qag, canon_tup, qat, qan, qab, qae, List.take_left']); refine Tot.ret ?_)
    exact ⟨most + 1, 0, rfl, by omega, by omega, by omega, by omega, by omega⟩
  · have := s35_loop A r hr most deep hm0 hm (by omega) hd (fun k hk m h1 h2 A => ih k hk (hr.kid hk) (deep - 1) m (by omega) h1 h2 (by omega) A) r.ks 0 1 0 rfl (by omega) (by omega) (by omega) (by omega)
    conv => arg 2; simp (disch := first | omega | assumption) only [qai]
    refine Tot.mono this fun y hy => ?_
    obtain ⟨N, D, rfl, h5, h6, h7, h8, h9⟩ := hy
    have e1 := Rx.size_eq r
    have e2 := Rx.depth_eq r
    exact ⟨N, D, rfl, by omega, by omega, h7, h8, h9⟩
end Go.Vm.Rx
