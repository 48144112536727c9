/- RxS17, RxS18, RxS19 in one text. -/
import Derived.Test.YtmaipfiikbcfmaaDoorRxS16
set_option linter.all false
/- The reference's reader of words: parts in turn, repetitions. -/
namespace Go.Vm.Rx
open Go Go.Proofs P
set_option linter.unusedVariables false
set_option linter.unusedSimpArgs false
set_option maxRecDepth 10000
set_option maxHeartbeats 400000
variable {l : List Word} (hl : l.length ≤ 1000000) (hw : ∀ w, w ∈ l → w.t.length ≤ 100000000)
include hl hw
theorem refSeqs_step {n : Nat} (ih : RefSpec l n) (A : St) (k o i i0 : Nat) (acc : List Rx) (b : Option Nat) (x : Except (Nat × Int) (Rx × Nat)) (r0 r1 r2 : D) (hk : k < A.length) (h0 : i0 < i) (hi : i ≤ l.length) (hne : acc ≠ []) (hs : Rx.sizes acc + acc.length ≤ 2 * (i - i0)) (hn : Rx.Nms acc) (hb : AccOk b 3 (acc.map encRx)) (ho : o ≤ 50) (h : pSeqs l (n + 1) o i acc = some x) :
    Tot (refOut A k l o i0 2 x) (iterK (f55_s0 mL (Run Tryd.prog rxA) (Dcall Tryd.prog rxA) (st A k (rdC l (i0 : Nat) (o : Nat) 0 0))) (Env.mk (sp [(0, .ref k 0), (1, .ref A.length 0), (0, accD b (A.length + 1) 3 (acc.map encRx))] 19) []) (st (accA b (A ++ [.cells [r0, r1, r2]]) (acc.map encRx)) k (rdC l (i : Nat) (o : Nat) 0 0))) := by
  have hls := Rx.len_sizes acc
  simp only [pSeqs] at h
  have hwi := wordAt_short hw i
  by_cases hp : starts (wordAt l i) = true
  · rw [if_pos hp] at h
    have hlt := wordAt_in (l := l) (i := i) (starts_ne hp)
    have hwd := s79 (accA b (A ++ [.cells [r0, r1, r2]]) (acc.map encRx)) k l i o 0 0 (lenA (lenL hk)) (by omega) (by omega) hwi
    rw [hp] at hwd
    refine Tot.iter ?_
    conv => arg 2; arg 1; unfold f55_s0
    (repeat' first | (with_reducible first | apply Tot.of (qaa rfl) | apply Tot.of (qau rfl) | apply Tot.of (qa4 rfl) | apply Tot.of (qak rfl) | apply Tot.of (qa0 rfl) | apply Tot.of (qav rfl) | apply Tot.gbl (b := true) | apply Tot.bql (b := true) | apply Tot.ift | apply Tot.iftt) | ((conv => arg 2; arg 1; simp (disch := first | omega | assumption) only [qbg, qah, qae, Nat.zero_add, qa5, qaj, qap, stAL_load, rdl3, r79, hwd]); (with_reducible first | apply Tot.of (qaa rfl) | apply Tot.bql (b := true) | (apply Tot.eql_t; omega))))
    have hap := fun cs r => st_app1_1 (A := A) (k := k) (w := 48) (n := 3) (s0 := .cells [r0, r1, r2]) (cs := cs) (d := encRx r) hb (by simp; omega) (by omega) hk
    have hml : ∀ r, acc.map encRx ++ [encRx r] = (acc ++ [r]).map encRx := fun r => by simp
    simp only [hml] at hap
    conv => arg 2; arg 1; simp (disch := first | omega | assumption) only [qa5, qap, r78]
    rcases PR.bind_some h with ⟨⟨a, c⟩, h1, rfl⟩ | ⟨r, j, h1, h2⟩
    · have hq := ih.rep (accA b (A ++ [.cells [r0, r1, r2]]) (acc.map encRx)) k o i _ (lenA (lenL hk)) (by omega) ho h1
      refine Tot.bn hq fun z hz => ?_
      obtain ⟨e, i', rfl, he, hi'⟩ := hz
      obtain ⟨hf1, hf2, hf3⟩ : i ≤ a ∧ a ≤ l.length ∧ (c = 90 ∨ c = 91) := (facts hw n).rep o i _ (by omega) h1
      have hx := refSeq_exit hl A k hk i' o a c i0 o 0 0 (acc ++ [e]) none r0 r1 r2 (.own _ _) (by simp only [Rx.sizes_append, Rx.sizes]; omega) (by omega) (wordAt_short hw _) (by omega)
      (repeat' first | (with_reducible first | apply Tot.of (qaa rfl) | apply Tot.of (qau rfl) | apply Tot.of (qa2 rfl) | apply Tot.of (qa4 rfl) | apply Tot.of (qa0 rfl) | apply Tot.of (qav rfl) | apply Tot.of (st_inl rfl)) | ((conv => arg 2; arg 1; simp (disch := first | omega | assumption) only [qa5, qa8, qba, sp3_rx, hap]); (with_reducible first | apply Tot.of (qaa rfl))))
      conv => arg 2; simp (disch := first | omega | assumption) only [qa5, qa8, qba]
      refine ⟨_, hx, joinR 4 (acc ++ [e]), i', rfl, ?_, hi'⟩
      have := joinR_size 4 (acc ++ [e])
      simp only [Rx.sizes_append, Rx.sizes] at this
      omega
    · have hq := ih.rep (accA b (A ++ [.cells [r0, r1, r2]]) (acc.map encRx)) k o i _ (lenA (lenL hk)) (by omega) ho h1
      refine Tot.bn hq fun z hz => ?_
      have g : Good l.length i r j := (facts hw n).rep o i _ (by omega) h1
      have g1 := g.lt; have g2 := g.size; have g3 := g.le
      cases (show z = _ from hz)
      have hx := ih.seqs A k o j i0 (acc ++ [r]) none x r0 r1 r2 hk (by omega) g.le (by simp) (by simp only [Rx.sizes_append, Rx.sizes, List.length_append, List.length_cons, List.length_nil]; omega) ((Rx.Nms_append _ _).2 ⟨hn, g.nm, trivial⟩) (.own _ _) ho h2
      (repeat' first | (with_reducible first | apply Tot.of (qaa rfl) | apply Tot.of (qau rfl) | apply Tot.of (qa2 rfl) | apply Tot.of (qa4 rfl) | apply Tot.of (qa0 rfl) | apply Tot.of (qav rfl) | apply Tot.of (st_inl rfl)) | ((conv => arg 2; arg 1; simp (disch := first | omega | assumption) only [qa5, qa8, qba, sp3_rx, hap]); (with_reducible first | apply Tot.of (qaa rfl))))
      conv => arg 2; simp (disch := first | omega | assumption) only [qa5, qa8, qba]
      exact hx
  · rw [if_neg hp] at h
    cases h
    rw [← joinR_4]
    exact ⟨_, refSeq_exit hl A k hk i o 0 0 i0 o 0 0 acc b r0 r1 r2 hb (by omega) (by omega) hwi (fun _ => by simpa using hp), rfl⟩
theorem refSeq_step {n : Nat} (ih : RefSpec l n) (A : St) (k o i : Nat) (x : Except (Nat × Int) (Rx × Nat)) (hk : k < A.length) (hi : i ≤ l.length) (ho : o ≤ 50) (h : pSeq l (n + 1) o i = some x) :
    Tot (refOut A k l o i 2 x) (f55 mL (Run Tryd.prog rxA) (Dcall Tryd.prog rxA) (.ref k 0) (st A k (rdC l (i : Nat) (o : Nat) 0 0))) := by
  simp only [pSeq] at h
  unfold f55
  (repeat' first | ((conv => arg 2; arg 1; simp (disch := first | omega | assumption) only [qa1, qaj, qag, st_appr]); (with_reducible first | apply Tot.of (qaa rfl))))
  conv => arg 2; arg 1; simp (disch := first | omega | assumption) only [qap, r78]
  rcases PR.bind_some h with ⟨⟨a, c⟩, h1, rfl⟩ | ⟨r, j, h1, h2⟩
  · have hq := ih.rep (A ++ [.cells [.int .i64 0, .str [], .sl .full 0 []]]) k o i _ (lenL hk) (by omega) ho h1
    refine Tot.bn hq fun z hz => ?_
    obtain ⟨e, i', rfl, he, hi'⟩ := hz
    obtain ⟨hf1, hf2, hf3⟩ : i ≤ a ∧ a ≤ l.length ∧ (c = 90 ∨ c = 91) := (facts hw n).rep o i _ (by omega) h1
    have hx := refSeq_exit hl A k hk i' o a c i o 0 0 [e] (some 3) (.int .i64 0) (.str []) (.sl .full 0 []) (.full _ _) (by simp only [Rx.sizes]; omega) (by omega) (wordAt_short hw _) (by omega)
    (repeat' first | (with_reducible first | apply Tot.of (qa2 rfl) | apply Tot.of (qa4 rfl) | apply Tot.of (qav rfl) | apply Tot.of (st_it rfl)) | ((conv => arg 2; arg 1; simp (disch := first | omega | assumption) only [sp3_rx]); (with_reducible first | apply Tot.of (qaa rfl))))
    conv => arg 2; simp (disch := first | omega | assumption) only []
    refine ⟨_, hx, joinR 4 [e], i', rfl, ?_, hi'⟩
    have : joinR 4 [e] = e := rfl
    rw [this]
    omega
  · have hq := ih.rep (A ++ [.cells [.int .i64 0, .str [], .sl .full 0 []]]) k o i _ (lenL hk) (by omega) ho h1
    refine Tot.bn hq fun z hz => ?_
    have g : Good l.length i r j := (facts hw n).rep o i _ (by omega) h1
    have g1 := g.lt; have g2 := g.size; have g3 := g.le
    cases (show z = _ from hz)
    have hx := ih.seqs A k o j i [r] (some 3) x (.int .i64 0) (.str []) (.sl .full 0 []) hk g.lt g.le (by simp) (by simp only [Rx.sizes, List.length_cons, List.length_nil]; omega) ⟨g.nm, trivial⟩ (.full _ _) ho h2
    (repeat' first | (with_reducible first | apply Tot.of (qa2 rfl) | apply Tot.of (qa4 rfl) | apply Tot.of (qav rfl) | apply Tot.of (st_it rfl)) | ((conv => arg 2; arg 1; simp (disch := first | omega | assumption) only [sp3_rx]); (with_reducible first | apply Tot.of (qaa rfl))))
    conv => arg 2; simp (disch := first | omega | assumption) only []
    exact hx
end Go.Vm.Rx

/- The reference's reader of words: repetitions. -/
namespace Go.Vm.Rx
open Go Go.Proofs P
set_option linter.unusedVariables false
set_option linter.unusedSimpArgs false
set_option maxRecDepth 10000
set_option maxHeartbeats 400000
/-- a row of kids as it stands in a variable -/
structure IsKs (x : D) (ks : List Rx) : Prop where
  cell : x.cell? = some x
  shut : ∀ n, x.shut n = x
  canon : x.canon = encL 3 (ks.map encRx)
theorem IsKs.enc (ks : List Rx) : IsKs (encL 3 (ks.map encRx)) ks := ⟨rfl, fun n => rxs_shut ks 3 n, rxs_canon ks 3⟩
theorem IsKs.one {x : D} {op : Int} {nm : Str} {ks : List Rx} (h : IsKs x ks) : IsKs (.sl .full 3 [.agg [.int .i64 op, .str nm, x]]) [.mk op nm ks] := by
  refine ⟨rfl, fun n => by simp [h.shut], ?_⟩
  simp only [D.canon, qam, qas, qbd, qai, qaz, h.canon, List.map_cons, List.map_nil, encRx_mk]
  rfl
section
variable {x : D} {ks : List Rx} (h : IsKs x ks) (op : Int) (nm : Str)
include h
theorem ks_cells : (D.agg [.int .i64 op, .str nm, x]).cellsT true = some [.int .i64 op, .str nm, x] := by
  have e : allCells [.int .i64 op, .str nm, x] = true := by
    show (true && (true && (x.cell?.isSome && true))) = true
    rw [h.cell]; rfl
  simp [D.cellsT, D.agg?, e]
theorem ks_lay (a b c : D) : layCells true 3 0 [a, b, c] (.agg [.int .i64 op, .str nm, x]) = some [.int .i64 op, .str nm, x] := by simp [layCells, ks_cells h, splice]
theorem ks_sp : sliceParts 3 true 0 [(0, .agg [.int .i64 op, .str nm, x])] = some [.agg [.int .i64 op, .str nm, x]] := sparts1 _ _ _ _ (ks_cells h op nm) rfl
theorem ks_ret (n : Nat) : ((D.agg [.int .i64 op, .str nm, x]).shut n).canon = encRx (.mk op nm ks) := by
  simp only [shut_agg, qao, qax, qan, qbb, h.shut, qbd, qam, qas, qai, qaz, h.canon, encRx_mk]
end
variable {l : List Word} (hl : l.length ≤ 1000000)
include hl
theorem refReps (A : St) (k o i0 : Nat) (hk : k < A.length) (ho : o ≤ 50) : ∀ (n i : Nat) (op : Int) (nm : Str) (ks : List Rx) (x y r0 r1 r2 : D) (z : Except (Nat × Int) (Rx × Nat)), i ≤ l.length → IsKs x ks → pReps l n i (.mk op nm ks) = some z →
    Tot (refOut A k l o i0 1 z) (iterK (f78_s0 mL (Run Tryd.prog rxA) (Dcall Tryd.prog rxA) (st A k (rdC l (i0 : Nat) (o : Nat) 0 0))) (Env.mk (sp [(0, .ref k 0), (1, .ref A.length 0), (0, .ref (A.length + 1) 0), (21, y)] 9) [])
      (st (A ++ [.cells [r0, r1, r2], .cells [.int .i64 op, .str nm, x]]) k (rdC l (i : Nat) (o : Nat) 0 0))) := by
  intro n
  induction n with
  | zero => intro i op nm ks x y r0 r1 r2 z hi hx h; cases h
  | succ n ih =>
    intro i op nm ks x y r0 r1 r2 z hi hx h
    simp only [pReps] at h
    have hwd := s56 (A ++ [.cells [r0, r1, r2], .cells [.int .i64 op, .str nm, x]]) k l i o 0 0 (lenL hk) (by omega) (by omega)
    have hlay := ks_lay hx op nm
    have hpx := ks_sp hx op nm
    have hret := ks_ret hx op nm
    have hkp := fun L => stL_Kept (A := A) (k := k) (cs := rdC l (i0 : Nat) o 0 0) (cs' := rdC l (i : Nat) o 0 0) (L := L) (rdC_shut _ _ _ _ _ _)
    have hone := fun (op' : Int) => (IsKs.one (op := op) (nm := nm) hx)
    have hshc : ∀ (op' : Int) (n : Nat), (Slot.cells [.int .i64 op', .str [], .sl .full 3 [.agg [.int .i64 op, .str nm, x]]]).shut n = .cells [.int .i64 op', .str [], .sl .full 3 [.agg [.int .i64 op, .str nm, x]]] := fun op' n => by simp [hx.shut]
    have hkl := fun (op' : Int) => stLL2_Kept (A := A) (k := k) (cs := rdC l (i : Nat) o 0 0) (cs' := rdC l ((i : Int) + 1) o 0 0) (s0 := .cells [r0, r1, r2]) (s1 := .cells [.int .i64 op, .str nm, x]) (t1 := .cells [.int .i64 op', .str [], .sl .full 3 [.agg [.int .i64 op, .str nm, x]]]) (fun n => rdC_shut _ _ _ _ _ n) (hshc op') hk
    have hs1 : (D.ref (A.length + 1) 0).shut (A.length + 2) = .ref (A.length + 1) 0 := shut_ref _ (by omega)
    have hs0 : (D.ref A.length 0).shut (A.length + 2) = .ref A.length 0 := shut_ref _ (by omega)
    have hsk : (D.ref k 0).shut (A.length + 2) = .ref k 0 := shut_ref _ (by omega)
    refine Tot.iter ?_
    conv => arg 2; arg 1; unfold f78_s0
    (repeat' first | (with_reducible first | apply Tot.of (qaa rfl) | apply Tot.of (qau rfl) | apply Tot.of (st_bind rfl) | apply Tot.of (qa2 rfl) | apply Tot.of (qa4 rfl) | apply Tot.of (qak rfl) | apply Tot.of (qa0 rfl) | apply Tot.of (st_bnsum rfl) | apply Tot.of (st_bnguard rfl) | apply Tot.of (qav rfl) | apply Tot.of (st_inl rfl) | apply Tot.of (st_inr rfl) | apply Tot.of (st_bngk rfl) | apply Tot.of (qat rfl) | apply Tot.bql (b := true) | apply Tot.bql (b := false) | apply Tot.ift | apply Tot.iff | (apply Tot.seql; all_goals intro hsp)) | ((conv => arg 2; arg 1; simp (disch := first | omega | assumption) only [qac, Option.map_some, Option.bind_some, binO_add, qbf, qan, qbb, shut_agg, qax, qao, qad, qal, qah, qae, Nat.zero_add, lay_int, lay_sl, lay_s, ofA3, packD, qa5, qa8, qba, qaw, qaj, qai, qaz, qap, qbd, qas, qam, qab, qaf, qag, ld_sh, ld_sh0, ldc0, ldcS, sto_sh, sto_sh0, stoc0, stocS, stL_load, stL_store, st_ldo, st_sto, stL_take, rdl1, rdl3, rds1, r56, hwd, hlay, hpx, lay3, hkl, hkp]); (with_reducible first | apply Tot.of (qaa rfl) | apply Tot.of (st_guard rfl) | (apply Tot.eql_t; omega) | (apply Tot.eql_f; omega))))
    · have e : opOf (wordAt l i) = 6 := by simp [opOf, *]
      rw [e, if_neg (by decide)] at h
      conv => arg 2; simp (disch := first | omega | assumption) only [qan, qbb, shut_sl, shut_agg, qax, qao, own_full, List.map_nil, Nat.zero_add, List.length_append, List.length_cons, List.length_nil, qa5, qa8, qba, qaj, qag, Nat.reduceAdd, hs0, hs1, hsk, stLL2_take]
      exact ih (i + 1) 6 [] [.mk op nm ks] _ _ r0 r1 r2 z (by have := wordAt_in (l := l) (i := i) (by simp [*]); omega) (hone 6) h
    · have e : opOf (wordAt l i) = 7 := by simp [opOf, *]
      rw [e, if_neg (by decide)] at h
      conv => arg 2; simp (disch := first | omega | assumption) only [qan, qbb, shut_sl, shut_agg, qax, qao, own_full, List.map_nil, Nat.zero_add, List.length_append, List.length_cons, List.length_nil, qa5, qa8, qba, qaj, qag, Nat.reduceAdd, hs0, hs1, hsk, stLL2_take]
      exact ih (i + 1) 7 [] [.mk op nm ks] _ _ r0 r1 r2 z (by have := wordAt_in (l := l) (i := i) (by simp [*]); omega) (hone 7) h
    · have e : opOf (wordAt l i) = 8 := by simp [opOf, *]
      rw [e, if_neg (by decide)] at h
      conv => arg 2; simp (disch := first | omega | assumption) only [qan, qbb, shut_sl, shut_agg, qax, qao, own_full, List.map_nil, Nat.zero_add, List.length_append, List.length_cons, List.length_nil, qa5, qa8, qba, qaj, qag, Nat.reduceAdd, hs0, hs1, hsk, stLL2_take]
      exact ih (i + 1) 8 [] [.mk op nm ks] _ _ r0 r1 r2 z (by have := wordAt_in (l := l) (i := i) (by simp [*]); omega) (hone 8) h
    · have e : opOf (wordAt l i) = 0 := by simp [opOf, *]
      rw [e, if_pos rfl] at h
      cases h
      have hxc : ∀ n, (x.shut n).canon = encL 3 (ks.map encRx) := fun n => by rw [hx.shut, hx.canon]
      ((try conv => arg 2; simp (disch := first | omega | assumption) only [hxc]); refine Tot.ret ?_)
      show _ = _
      rw [encRx_mk]
/-- at a fault -/
theorem refReps_bad (A : St) (k o i0 : Nat) (hk : k < A.length) (i a : Nat) (c : Int) (hc : c ≠ 0) (e : Rx) (y r0 r1 r2 : D) :
    iterK (f78_s0 mL (Run Tryd.prog rxA) (Dcall Tryd.prog rxA) (st A k (rdC l (i0 : Nat) (o : Nat) 0 0))) (Env.mk (sp [(0, .ref k 0), (1, .ref A.length 0), (0, .ref (A.length + 1) 0), (21, y)] 9) [])
      (st (A ++ [.cells [r0, r1, r2], .cells [.int .i64 e.op, .str e.nm, encL 3 (e.ks.map encRx)]]) k (rdC l (i : Nat) (o : Nat) c a)) = some (.ret (encRx e), st A k (rdC l (i : Nat) (o : Nat) c a)) := by
  have hkp := fun L => stL_Kept (A := A) (k := k) (cs := rdC l (i0 : Nat) o 0 0) (cs' := rdC l (i : Nat) o c a) (L := L) (rdC_shut _ _ _ _ _ _)
  refine Tot.eq (Tot.iter ?_)
  conv => arg 2; arg 1; unfold f78_s0
  (repeat' first | (with_reducible first | apply Tot.of (qau rfl) | apply Tot.of (qa2 rfl) | apply Tot.of (qa4 rfl) | apply Tot.of (qak rfl) | apply Tot.of (st_inr rfl) | apply Tot.of (qat rfl) | apply Tot.bql (b := false) | apply Tot.iff) | ((conv => arg 2; arg 1; simp (disch := first | omega | assumption) only [qac, Option.map_some, Option.bind_some, qad, qal, qah, qae, Nat.zero_add, ofA3, packD, qa5, qa8, qba, qaw, qaj, qab, qaf, qag, ld_sh, ld_sh0, ldc0, ldcS, sto_sh0, stoc0, stL_load, st_ldo, st_sto, stL_take, rdl3, rx_fold, rx_lay, hkp]); (with_reducible first | apply Tot.of (qaa rfl) | (apply Tot.eql_f; omega))))
  ((try conv => arg 2; simp (disch := first | omega | assumption) only [rx_shut, qa9]); refine Tot.ret ?_)
  rfl
variable (hw : ∀ w, w ∈ l → w.t.length ≤ 100000000)
include hw
theorem refRep_step {n : Nat} (ih : RefSpec l n) (A : St) (k o i : Nat) (x : Except (Nat × Int) (Rx × Nat)) (hk : k < A.length) (hi : i ≤ l.length) (ho : o ≤ 50) (h : pRep l (n + 1) o i = some x) :
    Tot (refOut A k l o i 1 x) (f78 mL (Run Tryd.prog rxA) (Dcall Tryd.prog rxA) (.ref k 0) (st A k (rdC l (i : Nat) (o : Nat) 0 0))) := by
  simp only [pRep] at h
  unfold f78
  (repeat' first | ((conv => arg 2; arg 1; simp (disch := first | omega | assumption) only [qa1, qaj, qag, st_appr]); (with_reducible first | apply Tot.of (qaa rfl))))
  conv => arg 2; arg 1; simp (disch := first | omega | assumption) only [qap, r98]
  rcases PR.bind_some h with ⟨⟨a, c⟩, h1, rfl⟩ | ⟨r, j, h1, h2⟩
  · have hq := ih.atom (A ++ [.cells [.int .i64 0, .str [], .sl .full 0 []]]) k o i _ (lenL hk) (by omega) ho h1
    refine Tot.bn hq fun z hz => ?_
    obtain ⟨e, i', rfl, he, hi'⟩ := hz
    obtain ⟨hf1, hf2, hf3⟩ : i ≤ a ∧ a ≤ l.length ∧ (c = 90 ∨ c = 91) := (facts hw n).atom o i _ (by omega) h1
    have hx := refReps_bad hl A k o i hk i' a c (by omega) e (.tup []) (.int .i64 0) (.str []) (.sl .full 0 [])
    (repeat' first | (with_reducible first | apply Tot.of (qa4 rfl) | apply Tot.of (qav rfl) | apply Tot.of (st_it rfl)) | ((conv => arg 2; arg 1; simp (disch := first | omega | assumption) only [Nat.zero_add, qa1, List.length_append, List.length_cons, List.length_nil, qaw, qaj, qag, app_nil', app_cons', sto_sh, stoc0, stocS, stL_appr, st_sto, rx_lay]); (with_reducible first | apply Tot.of (qaa rfl))))
    conv => arg 2; simp (disch := first | omega | assumption) only []
    exact ⟨_, hx, e, i', rfl, he, hi'⟩
  · have hq := ih.atom (A ++ [.cells [.int .i64 0, .str [], .sl .full 0 []]]) k o i _ (lenL hk) (by omega) ho h1
    refine Tot.bn hq fun z hz => ?_
    have g : Good l.length i r j := (facts hw n).atom o i _ (by omega) h1
    cases (show z = _ from hz)
    have hr : r = .mk r.op r.nm r.ks := by cases r; rfl
    have hx := refReps hl A k o i hk ho n j r.op r.nm r.ks _ (.tup []) (.int .i64 0) (.str []) (.sl .full 0 []) x g.le (IsKs.enc _) (by rw [← hr]; exact h2)
    (repeat' first | (with_reducible first | apply Tot.of (qa4 rfl) | apply Tot.of (qav rfl) | apply Tot.of (st_it rfl)) | ((conv => arg 2; arg 1; simp (disch := first | omega | assumption) only [Nat.zero_add, qa1, List.length_append, List.length_cons, List.length_nil, qaw, qaj, qag, app_nil', app_cons', sto_sh, stoc0, stocS, stL_appr, st_sto, rx_lay]); (with_reducible first | apply Tot.of (qaa rfl))))
    conv => arg 2; simp (disch := first | omega | assumption) only []
    exact hx
end Go.Vm.Rx

/- The reference's reader of words: atoms, and the whole reader. -/
namespace Go.Vm.Rx
open Go Go.Proofs P
set_option linter.unusedVariables false
set_option linter.unusedSimpArgs false
set_option maxRecDepth 10000
set_option maxHeartbeats 800000
variable {l : List Word} (hl : l.length ≤ 1000000) (hw : ∀ w, w ∈ l → w.t.length ≤ 100000000)
include hl hw
theorem refAtom_step {n : Nat} (ih : RefSpec l n) (A : St) (k o i : Nat) (x : Except (Nat × Int) (Rx × Nat)) (hk : k < A.length) (hi : i ≤ l.length) (ho : o ≤ 50) (h : pAtom l (n + 1) o i = some x) :
    Tot (refOut A k l o i 1 x) (f98 mL (Run Tryd.prog rxA) (Dcall Tryd.prog rxA) (.ref k 0) (st A k (rdC l (i : Nat) (o : Nat) 0 0))) := by
  simp only [pAtom] at h
  have hkp := fun (L : St) (i' o' b' a' : Int) => stL_Kept (A := A) (k := k) (cs := rdC l (i : Nat) o 0 0) (cs' := rdC l i' o' b' a') (L := L) (rdC_shut _ _ _ _ _ _)
  have hwd := fun (L : St) (j : Nat) (hj : j ≤ 2000000) => s56 (A ++ L) k l j o 0 0 (lenL hk) (by omega) (by omega)
  have hw0 := fun L => hwd L i (by omega)
  have hw1 := fun L => hwd L (i + 1) (by omega)
  have hfl := fun (L : St) (i' : Int) (e : Int) => s34 (A ++ L) k l i' o 0 e (lenL hk)
  have hs1 := wordAt_short hw (i + 1)
  have hs0 := wordAt_short hw i
  have hn1 := fun A => s80 (wordAt l (i + 1)) (by omega) A
  have hn0 := fun A => s80 (wordAt l i) (by omega) A
  have hlw : ∀ j : Nat, j < l.length → indexAddrO 3 true (encL 3 (l.map encW)) (.int .i64 (j : Int)) = some (.peek [.str (wordAt l j), .int .i64 l[j]!.line, .int .i64 l[j]!.col]) := fun j hj => by
    rw [idx_map hj, cellW, getElem!_pos l j hj, wordAt_lt hj]; rfl
  have hf0 : f98 mL (Run Tryd.prog rxA) (Dcall Tryd.prog rxA) (.ref k 0) (st A k (rdC l (i : Nat) (o : Nat) 0 0)) = f98 mL (Run Tryd.prog rxA) (Dcall Tryd.prog rxA) (.ref k 0) (st A k (rdC l (i : Nat) (o : Nat) 0 0)) := rfl
  unfold f98
  by_cases h46 : wordAt l i = [46]
  · rw [if_pos h46] at h
    cases h
    rw [h46] at hw0
    (repeat' first | (with_reducible first | apply Tot.of (qaa rfl) | apply Tot.of (st_bind rfl) | apply Tot.of (qa2 rfl) | apply Tot.of (qa4 rfl) | apply Tot.of (qav rfl) | apply Tot.of (qar rfl) | apply Tot.bql (b := true) | apply Tot.ift | (apply Tot.seql_t; first | assumption | with_reducible rfl)) | ((conv => arg 2; arg 1; simp (disch := first | omega | assumption) only [binO_add, qbf, qah, qae, Nat.zero_add, qa1, ofA3, qaw, qaj, qap, qag, ld_sh0, ldc0, sto_sh0, stoc0, stL_load, stL_store, st_appr, st_ldo, st_sto, rdl1, rds1, r56, hw0, lay3]); (with_reducible first | apply Tot.of (qaa rfl))))
    ((try conv => arg 2; simp (disch := first | omega | assumption) only [qac, qan, qbb, shut_sl, shut_agg, qax, qao, own_full, qad, packD, qai, qaz, qbd, qas, qam, canon_nil, qab, qaf, qag, stL_take, hkp]); refine Tot.ret ?_)
    rfl
  · rw [if_neg h46] at h
    by_cases h36 : wordAt l i = [36]
    · rw [if_pos h36] at h
      have hlt := wordAt_in (l := l) (i := i) (by rw [h36]; simp)
      rw [h36] at hw0
      simp only [Int.natCast_add, Int.natCast_one] at hw1
      by_cases hnm : isName (wordAt l (i + 1)) = true
      · rw [if_pos hnm] at h
        cases h
        have hlt1 := wordAt_in (l := l) (i := i + 1) (isName_ne hnm)
        rw [hnm] at hn1
        have hx := hlw (i + 1) hlt1
        simp only [Int.natCast_add, Int.natCast_one] at hx
        have hi2 : (i : Int) + 1 + 1 - 1 = (i : Int) + 1 := by omega
        (repeat' first | (with_reducible first | apply Tot.of (qaa rfl) | apply Tot.of (st_bind rfl) | apply Tot.of (qa2 rfl) | apply Tot.of (qa4 rfl) | apply Tot.of (qav rfl) | apply Tot.of (st_guard rfl) | apply Tot.of (st_gs rfl) | apply Tot.of (qar rfl) | apply Tot.bql (b := true) | apply Tot.bql (b := false) | apply Tot.ift | apply Tot.iff | (apply Tot.seql_t; first | assumption | with_reducible rfl) | (apply Tot.seql_f; first | assumption | decide | exact List.cons_ne_nil _ _)) | ((conv => arg 2; arg 1; simp (disch := first | omega | assumption) only [Option.map_some, binO_add, binO_sub, qbf, qah, qae, fieldAddr_peek, load_peek, qbc, List.drop_zero, Nat.zero_add, Nat.add_zero, qa1, lay_int, lay_s, ofA3, un_not, Bool.not_true, qaw, qaj, qaz, qap, qag, ld_sh0, ldc0, sto_sh0, stoc0, lay_str, stL_load, stL_store, st_appr, st_ldo, st_sto, rdl0, rdl1, rds1, r56, hw0, hw1, lay3, r80, hn1, hi2, hx]); (with_reducible first | apply Tot.of (qaa rfl))))
        ((try conv => arg 2; simp (disch := first | omega | assumption) only [qac, qan, qbb, shut_sl, shut_agg, qax, qao, own_full, qad, packD, qai, qaz, qbd, qas, qam, canon_nil, qab, qaf, qag, stL_take, hkp]); refine Tot.ret ?_)
        show _ = _
        rw [encRx_mk]
        simp only [Int.natCast_add]
        rfl
      · rw [if_neg hnm] at h
        cases h
        simp only [Bool.not_eq_true] at hnm
        rw [hnm] at hn1
        (repeat' first | (with_reducible first | apply Tot.of (qaa rfl) | apply Tot.of (st_bind rfl) | apply Tot.of (qa2 rfl) | apply Tot.of (qa4 rfl) | apply Tot.of (qav rfl) | apply Tot.of (qar rfl) | apply Tot.bql (b := true) | apply Tot.bql (b := false) | apply Tot.ift | apply Tot.iff | (apply Tot.seql_t; first | assumption | with_reducible rfl) | (apply Tot.seql_f; first | assumption | decide | exact List.cons_ne_nil _ _)) | ((conv => arg 2; arg 1; simp (disch := first | omega | assumption) only [binO_add, qbf, qah, qae, Nat.zero_add, qa1, ofA3, un_not, Bool.not_false, qaw, qaj, qai, qaz, qap, qag, ld_sh0, ldc0, sto_sh0, stoc0, stL_load, stL_store, st_appr, st_ldo, st_sto, rdl1, rds1, r56, hw0, hw1, rx_lay, rx_fold, r80, hn1, r34, hfl]); (with_reducible first | apply Tot.of (qaa rfl))))
        ((try conv => arg 2; simp (disch := first | omega | assumption) only [qac, qad, packD, qab, qaf, qag, stL_take, hkp, rx_shut, qa9]); refine Tot.ret ?_)
        exact ⟨_, i + 1, rfl, by simp only [Rx.size, Rx.sizes]; omega, by omega⟩
    · rw [if_neg h36] at h
      by_cases h40 : wordAt l i = [40]
      · rw [if_pos h40] at h
        have hlt := wordAt_in (l := l) (i := i) (by rw [h40]; simp)
        rw [h40] at hw0
        by_cases ho5 : 50 ≤ o
        · rw [if_pos ho5] at h
          cases h
          (repeat' first | (with_reducible first | apply Tot.of (qaa rfl) | apply Tot.of (st_bind rfl) | apply Tot.of (qa2 rfl) | apply Tot.of (qa4 rfl) | apply Tot.of (qav rfl) | apply Tot.of (qar rfl) | apply Tot.bql (b := true) | apply Tot.bql (b := false) | apply Tot.ift | apply Tot.iff | (apply Tot.seql_t; first | assumption | with_reducible rfl) | (apply Tot.seql_f; first | assumption | decide | exact List.cons_ne_nil _ _)) | ((conv => arg 2; arg 1; simp (disch := first | omega | assumption) only [qah, qae, Nat.zero_add, qa1, ofA3, qaw, qaj, qai, qap, qag, ld_sh0, ldc0, sto_sh0, stoc0, stL_load, st_appr, st_ldo, st_sto, rdl2, r56, hw0, rx_lay, rx_fold, r34, hfl]); (with_reducible first | apply Tot.of (qaa rfl) | (apply Tot.geq_t; omega))))
          ((try conv => arg 2; simp (disch := first | omega | assumption) only [qac, qad, packD, qab, qaf, qag, stL_take, hkp, rx_shut, qa9]); refine Tot.ret ?_)
          exact ⟨_, i, rfl, by simp only [Rx.size, Rx.sizes]; omega, by omega⟩
        · rw [if_neg ho5] at h
          by_cases h41 : wordAt l (i + 1) = [41]
          · rw [if_pos h41] at h
            cases h
            rw [h41] at hw1
            simp only [Int.natCast_add, Int.natCast_one] at hw1
            (repeat' first | (with_reducible first | apply Tot.of (qaa rfl) | apply Tot.of (st_bind rfl) | apply Tot.of (qa2 rfl) | apply Tot.of (qa4 rfl) | apply Tot.of (qav rfl) | apply Tot.of (qar rfl) | apply Tot.bql (b := true) | apply Tot.bql (b := false) | apply Tot.ift | apply Tot.iff | (apply Tot.seql_t; first | assumption | with_reducible rfl) | (apply Tot.seql_f; first | assumption | decide | exact List.cons_ne_nil _ _)) | ((conv => arg 2; arg 1; simp (disch := first | omega | assumption) only [binO_add, qbf, qah, qae, Nat.zero_add, qa1, ofA3, qaw, qaj, qap, qag, ld_sh0, ldc0, sto_sh0, stoc0, stL_load, stL_store, st_appr, st_ldo, st_sto, rdl1, rdl2, rds1, r56, hw0, hw1, lay3]); (with_reducible first | apply Tot.of (qaa rfl) | (apply Tot.geq_f; omega))))
            ((try conv => arg 2; simp (disch := first | omega | assumption) only [qac, qan, qbb, shut_sl, shut_agg, qax, qao, own_full, qad, packD, qai, qaz, qbd, qas, qam, canon_nil, qab, qaf, qag, stL_take, hkp]); refine Tot.ret ?_)
            show _ = _
            simp only [Int.natCast_add]
            rfl
          · rw [if_neg h41] at h
            simp only [Int.natCast_add, Int.natCast_one] at hw1
            (repeat' first | (with_reducible first | apply Tot.of (qa4 rfl) | apply Tot.of (qav rfl) | apply Tot.bql (b := true) | apply Tot.bql (b := false) | apply Tot.ift | apply Tot.iff | (apply Tot.seql_t; first | assumption | with_reducible rfl) | (apply Tot.seql_f; first | assumption | decide | exact List.cons_ne_nil _ _)) | ((conv => arg 2; arg 1; simp (disch := first | omega | assumption) only [binO_add, qbf, qah, qae, Nat.zero_add, qa1, qaw, qaj, qap, qag, stL_load, stL_store, st_appr, rdl1, rdl2, rds1, rds2, r56, hw0, hw1]); (with_reducible first | apply Tot.of (qaa rfl) | (apply Tot.geq_f; omega))))
            conv => arg 2; arg 1; simp (disch := first | omega | assumption) only [qap, r33]
            have hco : ((o : Int) + 1 - 1) = o := by omega
            rcases PR.bind_some h with ⟨⟨a, c⟩, h1, rfl⟩ | ⟨r, j, h1, h2⟩
            · have hq := ih.alt (A ++ [.cells [.int .i64 0, .str [], .sl .full 0 []]]) k (o + 1) (i + 1) _ (lenL hk) (by omega) (by omega) h1
              refine Tot.bn hq fun z hz => ?_
              obtain ⟨e, i', rfl, he, hi'⟩ := hz
              obtain ⟨hf1, hf2, hf3⟩ : i + 1 ≤ a ∧ a ≤ l.length ∧ (c = 90 ∨ c = 91) := (facts hw n).alt (o + 1) (i + 1) _ (by omega) h1
              simp only [Int.natCast_add, Int.natCast_one]
              (repeat' first | (with_reducible first | apply Tot.of (qaa rfl) | apply Tot.of (st_bind rfl) | apply Tot.of (qa2 rfl) | apply Tot.of (qa4 rfl) | apply Tot.of (qak rfl) | apply Tot.of (qav rfl) | apply Tot.of (qar rfl) | apply Tot.gbl (b := false) | apply Tot.bql (b := false) | apply Tot.iff | apply Tot.ifft) | ((conv => arg 2; arg 1; simp (disch := first | omega | assumption) only [qa7, binO_add, binO_sub, qbf, qah, qae, Nat.zero_add, qa1, ofA3, List.length_append, List.length_cons, List.length_nil, qaw, qaj, qag, app_nil', app_cons', ld_sh, ld_sh0, ldc0, ldcS, sto_sh, sto_sh0, stoc0, stocS, stL_load, stL_store, stL_appr, st_ldo, st_sto, rdl1, rdl2, rdl3, rds1, rds2, rx_lay, rx_fold, hco]); (with_reducible first | apply Tot.of (qaa rfl) | apply Tot.bql (b := false) | (apply Tot.eql_f; omega))))
              ((try conv => arg 2; simp (disch := first | omega | assumption) only [qac, qad, packD, qab, qaf, qag, stL_take, hkp, rx_shut, qa9]); refine Tot.ret ?_)
              exact ⟨e, i' + 1, rfl, by omega, by omega⟩
            · have hq := ih.alt (A ++ [.cells [.int .i64 0, .str [], .sl .full 0 []]]) k (o + 1) (i + 1) _ (lenL hk) (by omega) (by omega) h1
              refine Tot.bn hq fun z hz => ?_
              have g : Good l.length (i + 1) r j := (facts hw n).alt (o + 1) (i + 1) _ (by omega) h1
              have g1 := g.lt; have g2 := g.size; have g3 := g.le
              cases (show z = _ from hz)
              have hwj := fun L => hwd L j (by omega)
              simp only [Int.natCast_add, Int.natCast_one]
              by_cases hj : wordAt l j = [41]
              · rw [if_pos hj] at h2
                cases h2
                rw [hj] at hwj
                (repeat' first | (with_reducible first | apply Tot.of (qaa rfl) | apply Tot.of (st_bind rfl) | apply Tot.of (qa2 rfl) | apply Tot.of (qa4 rfl) | apply Tot.of (qak rfl) | apply Tot.of (qav rfl) | apply Tot.of (qar rfl) | apply Tot.gbl (b := true) | apply Tot.bql (b := true) | apply Tot.iff | apply Tot.iftt | (apply Tot.sneq_t; first | assumption | with_reducible rfl)) | ((conv => arg 2; arg 1; simp (disch := first | omega | assumption) only [qbg, binO_add, binO_sub, qbf, qah, qae, Nat.zero_add, qa1, ofA3, List.length_append, List.length_cons, List.length_nil, qaw, qaj, qap, qag, app_nil', app_cons', ld_sh, ld_sh0, ldc0, ldcS, sto_sh, sto_sh0, stoc0, stocS, stL_load, stL_store, stL_appr, st_ldo, st_sto, rdl1, rdl2, rdl3, rds1, rds2, rx_lay, rx_fold, hco, r56, hwj]); (with_reducible first | apply Tot.of (qaa rfl) | apply Tot.bql (b := false) | (apply Tot.eql_t; omega))))
                ((try conv => arg 2; simp (disch := first | omega | assumption) only [qac, qad, packD, qab, qaf, qag, stL_take, hkp, rx_shut, qa9]); refine Tot.ret ?_)
                rfl
              · rw [if_neg hj] at h2
                cases h2
                (repeat' first | (with_reducible first | apply Tot.of (qaa rfl) | apply Tot.of (st_bind rfl) | apply Tot.of (qa2 rfl) | apply Tot.of (qa4 rfl) | apply Tot.of (qak rfl) | apply Tot.of (qav rfl) | apply Tot.of (qar rfl) | apply Tot.gbl (b := true) | apply Tot.bql (b := true) | apply Tot.ift | apply Tot.iftt | (apply Tot.sneq_f; first | assumption | decide | exact List.cons_ne_nil _ _)) | ((conv => arg 2; arg 1; simp (disch := first | omega | assumption) only [qbg, binO_sub, qbf, qah, qae, Nat.zero_add, qa1, ofA3, List.length_append, List.length_cons, List.length_nil, qaw, qaj, qai, qap, qag, app_nil', app_cons', ld_sh0, ldc0, sto_sh, sto_sh0, stoc0, stocS, stL_load, stL_store, stL_appr, st_ldo, st_sto, rdl2, rdl3, rds2, rx_lay, rx_fold, hco, r56, hwj, r34, hfl]); (with_reducible first | apply Tot.of (qaa rfl) | apply Tot.bql (b := true) | (apply Tot.eql_t; omega))))
                ((try conv => arg 2; simp (disch := first | omega | assumption) only [qac, qad, packD, qab, qaf, qag, stL_take, hkp, rx_shut, qa9]); refine Tot.ret ?_)
                exact ⟨_, j, rfl, by simp only [Rx.size, Rx.sizes]; omega, by omega⟩
      · rw [if_neg h40] at h
        by_cases hnm : isName (wordAt l i) = true
        · rw [if_pos hnm] at h
          cases h
          rw [hnm] at hn0
          have hlt := wordAt_in (l := l) (i := i) (isName_ne hnm)
          (repeat' first | (with_reducible first | apply Tot.of (qaa rfl) | apply Tot.of (st_bind rfl) | apply Tot.of (qa2 rfl) | apply Tot.of (qa4 rfl) | apply Tot.of (qav rfl) | apply Tot.of (qar rfl) | apply Tot.bql (b := true) | apply Tot.bql (b := false) | apply Tot.ift | apply Tot.iff | (apply Tot.seql_f; first | assumption | decide | exact List.cons_ne_nil _ _)) | ((conv => arg 2; arg 1; simp (disch := first | omega | assumption) only [Option.map_some, binO_add, qbf, qah, qae, Nat.zero_add, qa1, lay_int, lay_s, ofA3, qaw, qaj, qaz, qap, qag, ld_sh0, ldc0, sto_sh0, stoc0, lay_str, stL_load, stL_store, st_appr, st_ldo, st_sto, rdl1, rds1, r56, hw0, lay3, r80, hn0]); (with_reducible first | apply Tot.of (qaa rfl))))
          ((try conv => arg 2; simp (disch := first | omega | assumption) only [qac, qan, qbb, shut_sl, shut_agg, qax, qao, own_full, qad, packD, qai, qaz, qbd, qas, qam, canon_nil, qab, qaf, qag, stL_take, hkp]); refine Tot.ret ?_)
          show _ = _
          rw [encRx_mk]
          rfl
        · rw [if_neg hnm] at h
          cases h
          simp only [Bool.not_eq_true] at hnm
          rw [hnm] at hn0
          (repeat' first | (with_reducible first | apply Tot.of (qaa rfl) | apply Tot.of (st_bind rfl) | apply Tot.of (qa2 rfl) | apply Tot.of (qa4 rfl) | apply Tot.of (qav rfl) | apply Tot.of (qar rfl) | apply Tot.bql (b := false) | apply Tot.iff | (apply Tot.seql_f; first | assumption | decide | exact List.cons_ne_nil _ _)) | ((conv => arg 2; arg 1; simp (disch := first | omega | assumption) only [qa1, ofA3, qaw, qaj, qai, qaz, qap, qag, ld_sh0, ldc0, sto_sh0, stoc0, st_appr, st_ldo, st_sto, r56, hw0, rx_lay, rx_fold, r80, hn0, r34, hfl]); (with_reducible first | apply Tot.of (qaa rfl))))
          ((try conv => arg 2; simp (disch := first | omega | assumption) only [qac, qad, packD, qab, qaf, qag, stL_take, hkp, rx_shut, qa9]); refine Tot.ret ?_)
          exact ⟨_, i, rfl, by simp only [Rx.size, Rx.sizes]; omega, by omega⟩
theorem refSpec : ∀ n, RefSpec l n
  | 0 => ⟨fun _ _ _ _ _ _ _ _ h => by simp [pAlt] at h, fun _ _ _ _ _ _ _ _ _ _ _ _ _ _ _ _ _ _ _ _ h => by simp [pAlts] at h, fun _ _ _ _ _ _ _ _ h => by simp [pSeq] at h, fun _ _ _ _ _ _ _ _ _ _ _ _ _ _ _ _ _ _ _ h => by simp [pSeqs] at h,
      fun _ _ _ _ _ _ _ _ h => by simp [pRep] at h, fun _ _ _ _ _ _ _ _ h => by simp [pAtom] at h⟩
  | n + 1 => by
    have ih := refSpec n
    exact ⟨fun A k o i x h1 h2 h3 h4 => refAlt_step hl hw ih A k o i x h1 h2 h3 h4,
      fun A k o i i0 acc b x r0 r1 r2 y h1 h2 h3 h4 h5 h6 h7 h8 h9 => refAlts_step hl hw ih A k o i i0 acc b x r0 r1 r2 y h1 h2 h3 h4 h5 h6 h7 h8 h9,
      fun A k o i x h1 h2 h3 h4 => refSeq_step hl hw ih A k o i x h1 h2 h3 h4,
      fun A k o i i0 acc b x r0 r1 r2 h1 h2 h3 h4 h5 h6 h7 h8 h9 => refSeqs_step hl hw ih A k o i i0 acc b x r0 r1 r2 h1 h2 h3 h4 h5 h6 h7 h8 h9,
      fun A k o i x h1 h2 h3 h4 => refRep_step hl hw ih A k o i x h1 h2 h3 h4,
      fun A k o i x h1 h2 h3 h4 => refAtom_step hl hw ih A k o i x h1 h2 h3 h4⟩
end Go.Vm.Rx
