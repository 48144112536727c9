/- RxS25, RxS26 in one text. -/
import Derived.Test.YtmaipfiikbcfmaaDoorRxS24
set_option linter.all false
/- The program's reader of words: rows of alternatives. -/
namespace Go.Vm.Rx
open Go Go.Proofs P
set_option linter.unusedVariables false
set_option linter.unusedSimpArgs false
set_option maxRecDepth 10000
set_option maxHeartbeats 400000
variable {l : List Word} (hl : l.length ≤ 1000000) (hw : ∀ w, w ∈ l → w.t.length ≤ 100000000)
/-- what a reader of the program comes to -/
def progOut (A : St) (k : Nat) (l : List Word) (o : Nat) (x : Except (Nat × Int) (Rx × Nat)) (r : Res × St) : Prop :=
  match x with
  | .ok (e, j) => r = (.ret (encRx e), st A k (psC l (j : Nat) (o : Nat)))
  | .error (a, c) => ∃ i' o' : Int, r = (.pan (.iface 69 (.agg [.int .i64 (a : Nat), .int .i64 c])), st A k (psC l i' o'))
/-- what the program's readers come to, by the bound on steps -/
structure ProgSpec (l : List Word) (n : Nat) : Prop where
  alt : ∀ A k o i x, k < A.length → i ≤ l.length → o ≤ 50 → pAlt l n o i = some x → Tot (progOut A k l o x) (f31 mL (Run Tryd.prog rxA) (Dcall Tryd.prog rxA) (.ref k 0) (st A k (psC l (i : Nat) (o : Nat))))
  alts : ∀ A k o i i0 acc b x r0 r1 r2, k < A.length → i0 < i → i ≤ l.length → acc ≠ [] → Rx.sizes acc + acc.length ≤ 2 * (i - i0) → Rx.Nms acc → AccOk b 3 (acc.map encRx) → o ≤ 50 → pAlts l n o i acc = some x →
    Tot (progOut A k l o x) (iterK (f31_s0 mL (Run Tryd.prog rxA) (Dcall Tryd.prog rxA) (st A k (psC l (i0 : Nat) (o : Nat)))) (Env.mk (sp [(0, .ref k 0), (1, .ref A.length 0), (0, accD b (A.length + 1) 3 (acc.map encRx))] 28) []) (st (accA b (A ++ [.cells [r0, r1, r2]]) (acc.map encRx)) k (psC l (i : Nat) (o : Nat))))
  seq : ∀ A k o i x, k < A.length → i ≤ l.length → o ≤ 50 → pSeq l n o i = some x → Tot (progOut A k l o x) (f52 mL (Run Tryd.prog rxA) (Dcall Tryd.prog rxA) (.ref k 0) (st A k (psC l (i : Nat) (o : Nat))))
  seqs : ∀ A k o i i0 acc b x r0 r1 r2, k < A.length → i0 < i → i ≤ l.length → acc ≠ [] → Rx.sizes acc + acc.length ≤ 2 * (i - i0) → Rx.Nms acc → AccOk b 3 (acc.map encRx) → o ≤ 50 → pSeqs l n o i acc = some x →
    Tot (progOut A k l o x) (iterK (f52_s0 mL (Run Tryd.prog rxA) (Dcall Tryd.prog rxA) (st A k (psC l (i0 : Nat) (o : Nat)))) (Env.mk (sp [(0, .ref k 0), (1, .ref A.length 0), (0, accD b (A.length + 1) 3 (acc.map encRx)), (0, .str (wordAt l i))] 38) []) (st (accA b (A ++ [.cells [r0, r1, r2]]) (acc.map encRx)) k (psC l (i : Nat) (o : Nat))))
  rep : ∀ A k o i x, k < A.length → i ≤ l.length → o ≤ 50 → pRep l n o i = some x → Tot (progOut A k l o x) (f76 mL (Run Tryd.prog rxA) (Dcall Tryd.prog rxA) (.ref k 0) (st A k (psC l (i : Nat) (o : Nat))))
  atom : ∀ A k o i x, k < A.length → i ≤ l.length → o ≤ 50 → pAtom l n o i = some x → Tot (progOut A k l o x) (f97 mL (Run Tryd.prog rxA) (Dcall Tryd.prog rxA) (.ref k 0) (st A k (psC l (i : Nat) (o : Nat))))
theorem canon1 (a : Str) : (D.sl .full 1 [.str a]).canon = encL 1 ([a].map .str) := rfl
theorem canon3 (a b c : Str) : (D.sl .full 1 [.str a, .str b, .str c]).canon = encL 1 ([a, b, c].map .str) := rfl
include hl hw
theorem progAlt_exit (A : St) (k : Nat) (hk : k < A.length) (i o : Nat) (i0 o0 : Int) (acc : List Rx) (b : Option Nat) (r0 r1 r2 : D) (hb : AccOk b 3 (acc.map encRx)) (hs : Rx.sizes acc ≤ 90000000) (hi : i ≤ 2000000)
    (hne : wordAt l i ≠ [124]) :
    iterK (f31_s0 mL (Run Tryd.prog rxA) (Dcall Tryd.prog rxA) (st A k (psC l i0 o0))) (Env.mk (sp [(0, .ref k 0), (1, .ref A.length 0), (0, accD b (A.length + 1) 3 (acc.map encRx))] 28) []) (st (accA b (A ++ [.cells [r0, r1, r2]]) (acc.map encRx)) k (psC l i o)) =
      some (.ret (encRx (join 5 acc)), st A k (psC l i o)) := by
  have heat := s53 (accA b (A ++ [.cells [r0, r1, r2]]) (acc.map encRx)) k l i o [[124]] (lenA (lenL hk)) (by omega) (by omega) (wordAt_short hw i) (by simp)
  rw [if_neg (by simp [hne])] at heat
  have hls := Rx.len_sizes acc
  have hfl := flat_len 5 acc
  have hj := fun A => s54 A 5 acc (by omega) (by omega)
  have hcn := acc_canon (c := A.length + 1) hb (plainRxs acc)
  have hkp := fun L b ds => stA_Kept (A := A) (k := k) (cs := psC l i0 o0) (cs' := psC l i o) (L := L) (b := b) (ds := ds) (psC_shut _ _ _ _)
  refine Tot.eq (Tot.iter ?_)
  conv => arg 2; arg 1; unfold f31_s0
  by_cases hc : (acc.length : Int) = 1
  · obtain ⟨r, rfl⟩ : ∃ r, acc = [r] := by
      cases acc with
      | nil => simp at hc
      | cons r l => cases l with
        | nil => exact ⟨r, rfl⟩
        | cons _ _ => simp at hc; omega
    have hx := idx_acc1 (c := A.length + 1) (g := true) (k := .i64) (d := encRx r) hb
    have hl1 : ([r] : List Rx).length = 1 := rfl
    simp only [List.map_cons, List.map_nil] at heat hcn ⊢
    (repeat' first | (with_reducible first | apply Tot.of (qaq rfl) | apply Tot.of (qba rfl) | apply Tot.of (qa3 rfl) | apply Tot.of (qah rfl) | apply Tot.of (qav rfl) | apply Tot.of (qas rfl) | apply Tot.of (st_inr rfl) | apply Tot.of (qa0 rfl) | apply Tot.bql (b := true) | apply Tot.ift) | ((conv => arg 2; arg 1; simp (disch := first | omega | assumption) only [qac, Option.map_some, Option.bind_some, qad, qal, qa1, qaf, qbf, List.map_nil, Nat.zero_add, Nat.add_zero, ofA3, packD, List.length_cons, List.length_nil, un_not, Bool.not_false, qa5, qbb, qbe, qaz, qai, qbg, qab, qae, qax, len_acc, sparts_str, ext0, extS, acc_ld0, acc_sto0, st_ldo, st_sto, stA_take, r53, canon1, heat, hx, rx_cell, rx_lay, qbd, hkp, List.map_cons]); (with_reducible first | apply Tot.of (qaa rfl) | (apply Tot.eql_t; omega))))
    ((try conv => arg 2; simp (disch := first | omega | assumption) only [rx_shut, qa7]); refine Tot.ret ?_)
    rfl
  · rw [join_eq (fun r e => hc (by rw [e]; rfl))]
    (repeat' first | (with_reducible first | apply Tot.of (qaq rfl) | apply Tot.of (qba rfl) | apply Tot.of (qa3 rfl) | apply Tot.of (qah rfl) | apply Tot.of (qav rfl) | apply Tot.of (qas rfl) | apply Tot.of (st_inr rfl) | apply Tot.of (qa0 rfl) | apply Tot.bql (b := true) | apply Tot.bql (b := false) | apply Tot.ift | apply Tot.iff) | ((conv => arg 2; arg 1; simp (disch := first | omega | assumption) only [qac, Option.map_some, Option.bind_some, qad, qal, qa1, qaf, Nat.add_zero, ofA3, packD, un_not, Bool.not_false, qa5, qbb, qbe, qaz, qai, qag, qbg, qab, qae, qax, len_acc, sparts_str, List.length_map, ext0, extS, acc_ld0, acc_sto0, st_ldo, st_sto, stA_take, r53, canon1, heat, hcn, r54, hj, rx_lay, qbd, hkp]); (with_reducible first | apply Tot.of (qaa rfl) | (apply Tot.eql_f; omega))))
    ((try conv => arg 2; simp (disch := first | omega | assumption) only [rx_shut, qa7]); refine Tot.ret ?_)
    rfl
theorem progAlts_step {n : Nat} (ih : ProgSpec l n) (A : St) (k o i i0 : Nat) (acc : List Rx) (b : Option Nat) (x : Except (Nat × Int) (Rx × Nat)) (r0 r1 r2 : D) (hk : k < A.length) (h0 : i0 < i) (hi : i ≤ l.length) (hne : acc ≠ []) (hs : Rx.sizes acc + acc.length ≤ 2 * (i - i0)) (hn : Rx.Nms acc) (hb : AccOk b 3 (acc.map encRx)) (ho : o ≤ 50) (h : pAlts l (n + 1) o i acc = some x) :
    Tot (progOut A k l o x) (iterK (f31_s0 mL (Run Tryd.prog rxA) (Dcall Tryd.prog rxA) (st A k (psC l (i0 : Nat) (o : Nat)))) (Env.mk (sp [(0, .ref k 0), (1, .ref A.length 0), (0, accD b (A.length + 1) 3 (acc.map encRx))] 28) []) (st (accA b (A ++ [.cells [r0, r1, r2]]) (acc.map encRx)) k (psC l (i : Nat) (o : Nat)))) := by
  have hls := Rx.len_sizes acc
  simp only [pAlts] at h
  by_cases hp : wordAt l i = [124]
  · rw [if_pos hp] at h
    have hlt := wordAt_in (l := l) (i := i) (by rw [hp]; simp)
    have heat := s53 (accA b (A ++ [.cells [r0, r1, r2]]) (acc.map encRx)) k l i o [[124]] (lenA (lenL hk)) (by omega) (by omega) (wordAt_short hw i) (by simp)
    rw [if_pos (by simp [hp])] at heat
    refine Tot.iter ?_
    conv => arg 2; arg 1; unfold f31_s0
    (repeat' first | (with_reducible first | apply Tot.of (qaq rfl) | apply Tot.of (qba rfl) | apply Tot.of (qa3 rfl) | apply Tot.of (qah rfl) | apply Tot.of (qav rfl) | apply Tot.of (qas rfl) | apply Tot.bql (b := false) | apply Tot.iff) | ((conv => arg 2; arg 1; simp (disch := first | omega | assumption) only [qa1, qaf, Nat.add_zero, un_not, Bool.not_true, qa5, qbg, sparts_str, ext0, extS, r53, canon1, heat]); (with_reducible first | apply Tot.of (qaa rfl))))
    have hap := fun cs r => st_app1_1 (A := A) (k := k) (w := 48) (n := 3) (s0 := .cells [r0, r1, r2]) (cs := cs) (d := encRx r) hb (by simp; omega) (by omega) hk
    have hml : ∀ r, acc.map encRx ++ [encRx r] = (acc ++ [r]).map encRx := fun r => by simp
    simp only [hml] at hap
    conv => arg 2; arg 1; simp (disch := first | omega | assumption) only [qa5, qbg, r52]
    rcases PR.bind_some h with ⟨⟨a, c⟩, h1, rfl⟩ | ⟨r, j, h1, h2⟩
    · have hq := ih.seq (accA b (A ++ [.cells [r0, r1, r2]]) (acc.map encRx)) k o (i + 1) _ (lenA (lenL hk)) (by omega) ho h1
      refine Tot.bn hq fun z hz => ?_
      obtain ⟨i', o', rfl⟩ := hz
      have hkp := fun L b ds => stA_Kept (A := A) (k := k) (cs := psC l i0 o) (cs' := psC l i' o') (L := L) (b := b) (ds := ds) (psC_shut _ _ _ _)
      (repeat' first | (with_reducible first | apply Tot.of (qaq rfl) | apply Tot.of (qba rfl) | apply Tot.of (qav rfl) | apply Tot.of (st_pan rfl) | apply Tot.of (st_inr rfl) | apply Tot.of (qa0 rfl)) | ((conv => arg 2; arg 1; simp (disch := first | omega | assumption) only [qac, qao, shut_agg, shut_iface, qay, qar, Res_shut_pan, leaves_pan, qa5, qbb, qbe, qag, canon_agg, canon_iface, qat, qan, Res_canon_pan, qae, qax, stA_take, hkp]); (with_reducible first | apply Tot.of (qaa rfl))))
      exact ⟨_, rfl, i', o', rfl⟩
    · have hq := ih.seq (accA b (A ++ [.cells [r0, r1, r2]]) (acc.map encRx)) k o (i + 1) _ (lenA (lenL hk)) (by omega) ho h1
      refine Tot.bn hq fun z hz => ?_
      have g : Good l.length (i + 1) r j := (facts hw n).seq o (i + 1) _ (by omega) h1
      have g1 := g.lt; have g2 := g.size; have g3 := g.le
      cases (show z = _ from hz)
      have hx := ih.alts A k o j i0 (acc ++ [r]) none x r0 r1 r2 hk (by omega) g.le (by simp) (by simp only [Rx.sizes_append, Rx.sizes, List.length_append, List.length_cons, List.length_nil]; omega) ((Rx.Nms_append _ _).2 ⟨hn, g.nm, trivial⟩) (.own _ _) ho h2
      (repeat' first | (with_reducible first | apply Tot.of (qaa rfl) | apply Tot.of (qaq rfl) | apply Tot.of (qba rfl) | apply Tot.of (qa3 rfl) | apply Tot.of (qav rfl) | apply Tot.of (qas rfl) | apply Tot.of (st_inl rfl)) | ((conv => arg 2; arg 1; simp (disch := first | omega | assumption) only [qa5, qbb, qbe, sp3_rx, hap]); (with_reducible first | apply Tot.of (qaa rfl))))
      conv => arg 2; simp (disch := first | omega | assumption) only [qa5, qbb, qbe]
      exact hx
  · rw [if_neg hp] at h
    cases h
    exact ⟨_, progAlt_exit hl hw A k hk i o i0 o acc b r0 r1 r2 hb (by omega) (by omega) hp, rfl⟩
theorem progAlt_step {n : Nat} (ih : ProgSpec l n) (A : St) (k o i : Nat) (x : Except (Nat × Int) (Rx × Nat)) (hk : k < A.length) (hi : i ≤ l.length) (ho : o ≤ 50) (h : pAlt l (n + 1) o i = some x) :
    Tot (progOut A k l o x) (f31 mL (Run Tryd.prog rxA) (Dcall Tryd.prog rxA) (.ref k 0) (st A k (psC l (i : Nat) (o : Nat)))) := by
  simp only [pAlt] at h
  unfold f31
  (repeat' first | ((conv => arg 2; arg 1; simp (disch := first | omega | assumption) only [qa6, qai, qax, st_appr]); (with_reducible first | apply Tot.of (qaa rfl))))
  conv => arg 2; arg 1; simp (disch := first | omega | assumption) only [qbg, r52]
  rcases PR.bind_some h with ⟨⟨a, c⟩, h1, rfl⟩ | ⟨r, j, h1, h2⟩
  · have hq := ih.seq (A ++ [.cells [.int .i64 0, .str [], .sl .full 0 []]]) k o i _ (lenL hk) (by omega) ho h1
    refine Tot.bn hq fun z hz => ?_
    obtain ⟨i', o', rfl⟩ := hz
    have hkp := fun L => stL_Kept (A := A) (k := k) (cs := psC l i o) (cs' := psC l i' o') (L := L) (psC_shut _ _ _ _)
    (repeat' first | (with_reducible first | apply Tot.of (st_pan rfl) | apply Tot.of (qak rfl)))
    conv => arg 2; simp (disch := first | omega | assumption) only [qac, qao, shut_agg, shut_iface, qay, qar, Res_shut_pan, qag, canon_agg, canon_iface, qat, qan, Res_canon_pan, qae, qax, stL_take, hkp]
    exact ⟨_, rfl, i', o', rfl⟩
  · have hq := ih.seq (A ++ [.cells [.int .i64 0, .str [], .sl .full 0 []]]) k o i _ (lenL hk) (by omega) ho h1
    refine Tot.bn hq fun z hz => ?_
    have g : Good l.length i r j := (facts hw n).seq o i _ (by omega) h1
    have g1 := g.lt; have g2 := g.size; have g3 := g.le
    cases (show z = _ from hz)
    have hx := ih.alts A k o j i [r] (some 3) x (.int .i64 0) (.str []) (.sl .full 0 []) hk g.lt g.le (by simp) (by simp only [Rx.sizes, List.length_cons, List.length_nil]; omega) ⟨g.nm, trivial⟩ (.full _ _) ho h2
    (repeat' first | (with_reducible first | apply Tot.of (qba rfl) | apply Tot.of (qa3 rfl) | apply Tot.of (qas rfl) | apply Tot.of (st_it rfl)) | ((conv => arg 2; arg 1; simp (disch := first | omega | assumption) only [sp3_rx]); (with_reducible first | apply Tot.of (qaa rfl))))
    conv => arg 2; simp (disch := first | omega | assumption) only []
    exact hx
end Go.Vm.Rx

/- The program's reader of words: rows of parts. -/
namespace Go.Vm.Rx
open Go Go.Proofs P
set_option linter.unusedVariables false
set_option linter.unusedSimpArgs false
set_option linter.unusedSectionVars false
set_option maxRecDepth 10000
set_option maxHeartbeats 1000000
variable {l : List Word} (hl : l.length ≤ 1000000) (hw : ∀ w, w ∈ l → w.t.length ≤ 100000000)
theorem starts_no {w : Str} (h : starts w = false) : ¬ w = [36] ∧ ¬ w = [46] ∧ ¬ w = [40] ∧ isName w = false := by
  simp only [starts, Bool.or_eq_false_iff, beq_eq_false_iff_ne, ne_eq] at h
  exact ⟨h.1.1.1, h.1.1.2, h.1.2, h.2⟩
theorem isName36 : isName [36] = false := by decide
theorem isName46 : isName [46] = false := by decide
theorem isName40 : isName [40] = false := by decide
theorem starts_cases {w : Str} (h : starts w = true) : isName w = true ∨ w = [36] ∨ w = [46] ∨ w = [40] := by
  simp only [starts, Bool.or_eq_true, beq_iff_eq] at h
  rcases h with ((h | h) | h) | h
  · exact .inr (.inl h)
  · exact .inr (.inr (.inl h))
  · exact .inr (.inr (.inr h))
  · exact .inl h
include hl hw
theorem progSeq_exit (A : St) (k : Nat) (hk : k < A.length) (i o : Nat) (i0 o0 : Int) (acc : List Rx) (b : Option Nat) (r0 r1 r2 : D) (hb : AccOk b 3 (acc.map encRx)) (hs : Rx.sizes acc ≤ 90000000) (hi : i ≤ 2000000)
    (hne : starts (wordAt l i) = false) :
    iterK (f52_s0 mL (Run Tryd.prog rxA) (Dcall Tryd.prog rxA) (st A k (psC l i0 o0))) (Env.mk (sp [(0, .ref k 0), (1, .ref A.length 0), (0, accD b (A.length + 1) 3 (acc.map encRx)), (0, .str (wordAt l i))] 38) []) (st (accA b (A ++ [.cells [r0, r1, r2]]) (acc.map encRx)) k (psC l i o)) =
      some (.ret (encRx (join 4 acc)), st A k (psC l i o)) := by
  have hwi := wordAt_short hw i
  have hnm := fun A => s63 (wordAt l i) (by omega) A
  obtain ⟨n1, n2, n3, n4⟩ := starts_no hne
  rw [n4] at hnm
  have hls := Rx.len_sizes acc
  have hfl := flat_len 4 acc
  have hj := fun A => s54 A 4 acc (by omega) (by omega)
  have hcn := acc_canon (c := A.length + 1) hb (plainRxs acc)
  have hkp := fun L b ds => stA_Kept (A := A) (k := k) (cs := psC l i0 o0) (cs' := psC l i o) (L := L) (b := b) (ds := ds) (psC_shut _ _ _ _)
  refine Tot.eq (Tot.iter ?_)
  conv => arg 2; arg 1; unfold f52_s0
  by_cases hc : (acc.length : Int) = 1
  · obtain ⟨r, rfl⟩ : ∃ r, acc = [r] := by
      cases acc with
      | nil => simp at hc
      | cons r l => cases l with
        | nil => exact ⟨r, rfl⟩
        | cons _ _ => simp at hc; omega
    have hx := idx_acc1 (c := A.length + 1) (g := true) (k := .i64) (d := encRx r) hb
    have hl1 : ([r] : List Rx).length = 1 := rfl
    simp only [List.map_cons, List.map_nil] at hcn ⊢
    (repeat' first | (with_reducible first | apply Tot.of (qaa rfl) | apply Tot.of (qaq rfl) | apply Tot.of (qba rfl) | apply Tot.of (qa3 rfl) | apply Tot.of (qah rfl) | apply Tot.of (qav rfl) | apply Tot.of (qas rfl) | apply Tot.of (st_inr rfl) | apply Tot.of (qa0 rfl) | apply Tot.gbl (b := false) | apply Tot.bql (b := true) | apply Tot.bql (b := false) | apply Tot.ift | apply Tot.iff | apply Tot.ifff) | ((conv => arg 2; arg 1; simp (disch := first | omega | assumption) only [qaw, qac, Option.map_some, Option.bind_some, qad, qal, qbf, Nat.zero_add, ofA3, packD, List.length_cons, List.length_nil, qa5, qbb, qbe, qaz, qai, qam, qab, qae, qax, len_acc, acc_ld0, acc_sto0, st_ldo, st_sto, stA_take, r63, hnm, hx, rx_cell, rx_lay, qbd, hkp]); (with_reducible first | apply Tot.of (qaa rfl) | apply Tot.gbl (b := false) | apply Tot.bql (b := false) | (apply Tot.eql_t; omega) | (apply Tot.seql_f; first | assumption | decide | exact List.cons_ne_nil _ _))))
    ((try conv => arg 2; simp (disch := first | omega | assumption) only [rx_shut, qa7]); refine Tot.ret ?_)
    rfl
  · rw [join_eq (fun r e => hc (by rw [e]; rfl))]
    (repeat' first | (with_reducible first | apply Tot.of (qaa rfl) | apply Tot.of (qaq rfl) | apply Tot.of (qba rfl) | apply Tot.of (qa3 rfl) | apply Tot.of (qah rfl) | apply Tot.of (qav rfl) | apply Tot.of (qas rfl) | apply Tot.of (st_inr rfl) | apply Tot.of (qa0 rfl) | apply Tot.gbl (b := false) | apply Tot.bql (b := false) | apply Tot.iff | apply Tot.ifff) | ((conv => arg 2; arg 1; simp (disch := first | omega | assumption) only [qaw, qac, Option.map_some, Option.bind_some, qad, qal, ofA3, packD, qa5, qbb, qbe, qaz, qai, qag, qam, qab, qae, qax, len_acc, List.length_map, acc_ld0, acc_sto0, st_ldo, st_sto, stA_take, r63, hnm, hcn, r54, hj, rx_lay, qbd, hkp]); (with_reducible first | apply Tot.of (qaa rfl) | apply Tot.gbl (b := false) | apply Tot.bql (b := false) | (apply Tot.eql_f; omega) | (apply Tot.seql_f; first | assumption | decide | exact List.cons_ne_nil _ _))))
    ((try conv => arg 2; simp (disch := first | omega | assumption) only [rx_shut, qa7]); refine Tot.ret ?_)
    rfl
theorem progSeqs_step {n : Nat} (ih : ProgSpec l n) (A : St) (k o i i0 : Nat) (acc : List Rx) (b : Option Nat) (x : Except (Nat × Int) (Rx × Nat)) (r0 r1 r2 : D) (hk : k < A.length) (h0 : i0 < i) (hi : i ≤ l.length) (hne : acc ≠ []) (hs : Rx.sizes acc + acc.length ≤ 2 * (i - i0)) (hn : Rx.Nms acc) (hb : AccOk b 3 (acc.map encRx)) (ho : o ≤ 50) (h : pSeqs l (n + 1) o i acc = some x) :
    Tot (progOut A k l o x) (iterK (f52_s0 mL (Run Tryd.prog rxA) (Dcall Tryd.prog rxA) (st A k (psC l (i0 : Nat) (o : Nat)))) (Env.mk (sp [(0, .ref k 0), (1, .ref A.length 0), (0, accD b (A.length + 1) 3 (acc.map encRx)), (0, .str (wordAt l i))] 38) []) (st (accA b (A ++ [.cells [r0, r1, r2]]) (acc.map encRx)) k (psC l (i : Nat) (o : Nat)))) := by
  have hls := Rx.len_sizes acc
  simp only [pSeqs] at h
  by_cases hp : starts (wordAt l i) = true
  · rw [if_pos hp] at h
    have hlt := wordAt_in (l := l) (i := i) (starts_ne hp)
    have hnm := fun A => s63 (wordAt l i) (by have := wordAt_short hw i; omega) A
    have hap := fun cs r => st_app1_1 (A := A) (k := k) (w := 48) (n := 3) (s0 := .cells [r0, r1, r2]) (cs := cs) (d := encRx r) hb (by simp; omega) (by omega) hk
    have hml : ∀ r, acc.map encRx ++ [encRx r] = (acc ++ [r]).map encRx := fun r => by simp
    simp only [hml] at hap
    refine Tot.iter ?_
    conv => arg 2; arg 1; unfold f52_s0
    rcases starts_cases hp with hz0 | hz0 | hz0 | hz0 <;> (first | rw [hz0] at hnm ⊢ | rw [hz0] at hnm; try simp only [isName36, isName46, isName40] at hnm)
    all_goals ((repeat' first | (with_reducible first | apply Tot.of (qaa rfl) | apply Tot.of (qaq rfl) | apply Tot.of (qa3 rfl) | apply Tot.of (qah rfl) | apply Tot.of (qav rfl) | apply Tot.of (qas rfl) | apply Tot.gbl (b := true) | apply Tot.gbl (b := false) | apply Tot.bql (b := true) | apply Tot.ift | apply Tot.iftf | apply Tot.ifff | (apply Tot.gb_t; assumption) | (apply Tot.gb_f; assumption) | (apply Tot.bq_t; assumption) | (apply Tot.bq_f; assumption) | (apply Tot.gb; all_goals intro hsp)) | ((conv => arg 2; arg 1; simp (disch := first | omega | assumption) only [qa8, qaw, qa5, qbb, qbe, qam, r63, hnm]); (with_reducible first | apply Tot.of (qaa rfl) | apply Tot.gbl (b := true) | apply Tot.gbl (b := false) | apply Tot.bql (b := true) | apply Tot.bql (b := false) | (apply Tot.seql_t; first | assumption | with_reducible rfl) | (apply Tot.seql_f; first | assumption | decide | exact List.cons_ne_nil _ _)))))
    all_goals (conv => arg 2; arg 1; simp (disch := first | omega | assumption) only [qa5, qbg, r76])
    all_goals (
      rcases PR.bind_some h with ⟨⟨a, c⟩, h1, rfl⟩ | ⟨r, j, h1, h2⟩
      · have hq := ih.rep (accA b (A ++ [.cells [r0, r1, r2]]) (acc.map encRx)) k o i _ (lenA (lenL hk)) (by omega) ho h1
        refine Tot.bn hq fun z hz => ?_
        obtain ⟨i', o', rfl⟩ := hz
        have hkp := fun L b ds => stA_Kept (A := A) (k := k) (cs := psC l i0 o) (cs' := psC l i' o') (L := L) (b := b) (ds := ds) (psC_shut _ _ _ _)
        (repeat' first | (with_reducible first | apply Tot.of (qaq rfl) | apply Tot.of (qba rfl) | apply Tot.of (qav rfl) | apply Tot.of (st_pan rfl) | apply Tot.of (st_inr rfl) | apply Tot.of (qa0 rfl)) | ((conv => arg 2; arg 1; simp (disch := first | omega | assumption) only [qac, qao, shut_agg, shut_iface, qay, qar, Res_shut_pan, leaves_pan, qa5, qbb, qbe, qag, canon_agg, canon_iface, qat, qan, Res_canon_pan, qae, qax, stA_take, hkp]); (with_reducible first | apply Tot.of (qaa rfl))))
        exact ⟨_, rfl, i', o', rfl⟩
      · have hq := ih.rep (accA b (A ++ [.cells [r0, r1, r2]]) (acc.map encRx)) k o i _ (lenA (lenL hk)) (by omega) ho h1
        refine Tot.bn hq fun z hz => ?_
        have g : Good l.length i r j := (facts hw n).rep o i _ (by omega) h1
        have g1 := g.lt; have g2 := g.size; have g3 := g.le
        cases (show z = _ from hz)
        have hwd := s77 (accA none (A ++ [.cells [r0, r1, r2]]) ((acc ++ [r]).map encRx)) k l j o (lenA (lenL hk)) (by omega) (by omega)
        have hx := ih.seqs A k o j i0 (acc ++ [r]) none x r0 r1 r2 hk (by omega) g.le (by simp) (by simp only [Rx.sizes_append, Rx.sizes, List.length_append, List.length_cons, List.length_nil]; omega) ((Rx.Nms_append _ _).2 ⟨hn, g.nm, trivial⟩) (.own _ _) ho h2
        (repeat' first | (with_reducible first | apply Tot.of (qaa rfl) | apply Tot.of (qaq rfl) | apply Tot.of (qba rfl) | apply Tot.of (qa3 rfl) | apply Tot.of (qav rfl) | apply Tot.of (qas rfl) | apply Tot.of (st_inl rfl)) | ((conv => arg 2; arg 1; simp (disch := first | omega | assumption) only [qa1, qaf, Nat.add_zero, qa5, qbb, qbe, qbg, sp3_rx, hap, r77, hwd]); (with_reducible first | apply Tot.of (qaa rfl))))
        conv => arg 2; simp (disch := first | omega | assumption) only [qa5, qbb, qbe]
        exact hx)
  · rw [if_neg hp] at h
    cases h
    exact ⟨_, progSeq_exit hl hw A k hk i o i0 o acc b r0 r1 r2 hb (by omega) (by omega) (by simpa using hp), rfl⟩
theorem progSeq_step {n : Nat} (ih : ProgSpec l n) (A : St) (k o i : Nat) (x : Except (Nat × Int) (Rx × Nat)) (hk : k < A.length) (hi : i ≤ l.length) (ho : o ≤ 50) (h : pSeq l (n + 1) o i = some x) :
    Tot (progOut A k l o x) (f52 mL (Run Tryd.prog rxA) (Dcall Tryd.prog rxA) (.ref k 0) (st A k (psC l (i : Nat) (o : Nat)))) := by
  simp only [pSeq] at h
  unfold f52
  (repeat' first | ((conv => arg 2; arg 1; simp (disch := first | omega | assumption) only [qa6, qai, qax, st_appr]); (with_reducible first | apply Tot.of (qaa rfl))))
  conv => arg 2; arg 1; simp (disch := first | omega | assumption) only [qbg, r76]
  rcases PR.bind_some h with ⟨⟨a, c⟩, h1, rfl⟩ | ⟨r, j, h1, h2⟩
  · have hq := ih.rep (A ++ [.cells [.int .i64 0, .str [], .sl .full 0 []]]) k o i _ (lenL hk) (by omega) ho h1
    refine Tot.bn hq fun z hz => ?_
    obtain ⟨i', o', rfl⟩ := hz
    have hkp := fun L => stL_Kept (A := A) (k := k) (cs := psC l i o) (cs' := psC l i' o') (L := L) (psC_shut _ _ _ _)
    (repeat' first | (with_reducible first | apply Tot.of (st_pan rfl) | apply Tot.of (qak rfl)))
    conv => arg 2; simp (disch := first | omega | assumption) only [qac, qao, shut_agg, shut_iface, qay, qar, Res_shut_pan, qag, canon_agg, canon_iface, qat, qan, Res_canon_pan, qae, qax, stL_take, hkp]
    exact ⟨_, rfl, i', o', rfl⟩
  · have hq := ih.rep (A ++ [.cells [.int .i64 0, .str [], .sl .full 0 []]]) k o i _ (lenL hk) (by omega) ho h1
    refine Tot.bn hq fun z hz => ?_
    have g : Good l.length i r j := (facts hw n).rep o i _ (by omega) h1
    have g1 := g.lt; have g2 := g.size; have g3 := g.le
    cases (show z = _ from hz)
    have hwd := s77 (A ++ [.cells [.int .i64 0, .str [], .sl .full 0 []]]) k l j o (lenL hk) (by omega) (by omega)
    have hx := ih.seqs A k o j i [r] (some 3) x (.int .i64 0) (.str []) (.sl .full 0 []) hk g.lt g.le (by simp) (by simp only [Rx.sizes, List.length_cons, List.length_nil]; omega) ⟨g.nm, trivial⟩ (.full _ _) ho h2
    (repeat' first | (with_reducible first | apply Tot.of (qba rfl) | apply Tot.of (qa3 rfl) | apply Tot.of (qas rfl) | apply Tot.of (st_it rfl)) | ((conv => arg 2; arg 1; simp (disch := first | omega | assumption) only [qa1, qaf, Nat.add_zero, qbg, sp3_rx, r77, hwd]); (with_reducible first | apply Tot.of (qaa rfl))))
    conv => arg 2; simp (disch := first | omega | assumption) only []
    exact hx
end Go.Vm.Rx
