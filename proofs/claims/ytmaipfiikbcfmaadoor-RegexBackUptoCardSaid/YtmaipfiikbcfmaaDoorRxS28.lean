/- RxS27, RxS28 in one text. -/
import Derived.Test.YtmaipfiikbcfmaaDoorRxS26
set_option linter.all false
/- The program's reader of words: repetitions. -/
namespace Go.Vm.Rx
open Go Go.Proofs P
set_option linter.unusedVariables false
set_option linter.unusedSimpArgs false
set_option linter.unusedSectionVars false
set_option maxRecDepth 10000
set_option maxHeartbeats 1000000
variable {l : List Word} (hl : l.length ≤ 1000000) (hw : ∀ w, w ∈ l → w.t.length ≤ 100000000)
theorem opOf_cases {w : Str} (h : ¬ opOf w = 0) : (w = [42] ∧ opOf w = 6) ∨ (w = [43] ∧ opOf w = 7) ∨ (w = [63] ∧ opOf w = 8) := by
  unfold opOf at h ⊢
  split
  · exact .inl ⟨‹_›, rfl⟩
  · split
    · exact .inr (.inl ⟨‹_›, rfl⟩)
    · split
      · exact .inr (.inr ⟨‹_›, rfl⟩)
      · rename_i h1 h2 h3; rw [if_neg h1, if_neg h2, if_neg h3] at h; exact absurd rfl h
theorem opOf_no {w : Str} (h : opOf w = 0) : ¬ w ∈ [[42], [43], [63]] := by
  intro e
  simp only [List.mem_cons, List.not_mem_nil, or_false] at e
  rcases e with rfl | rfl | rfl <;> revert h <;> decide
include hl hw
theorem progReps (A : St) (k o i0 : Nat) (hk : k < A.length) (ho : o ≤ 50) : ∀ (n i : Nat) (op : Int) (nm : Str) (ks : List Rx) (x y r0 r1 r2 : D) (z : Except (Nat × Int) (Rx × Nat)), i ≤ l.length → IsKs x ks → pReps l n i (.mk op nm ks) = some z →
    Tot (progOut A k l o z) (iterK (f76_s0 mL (Run Tryd.prog rxA) (Dcall Tryd.prog rxA) (st A k (psC l (i0 : Nat) (o : Nat)))) (Env.mk (sp [(0, .ref k 0), (1, .ref A.length 0), (0, .ref (A.length + 1) 0), (21, y)] 3) [])
      (st (A ++ [.cells [r0, r1, r2], .cells [.int .i64 op, .str nm, x]]) k (psC l (i : Nat) (o : Nat)))) := by
  intro n
  induction n with
  | zero => intro i op nm ks x y r0 r1 r2 z hi hx h; cases h
  | succ n ih =>
    intro i op nm ks x y r0 r1 r2 z hi hx h
    simp only [pReps] at h
    have heat := s53 (A ++ [.cells [r0, r1, r2], .cells [.int .i64 op, .str nm, x]]) k l i o [[42], [43], [63]] (lenL hk) (by omega) (by omega) (wordAt_short hw i) (by simp)
    have hlay := ks_lay hx op nm
    have hpx := ks_sp hx op nm
    have hret := ks_ret hx op nm
    have hkp := fun L => stL_Kept (A := A) (k := k) (cs := psC l i0 o) (cs' := psC l i o) (L := L) (psC_shut _ _ _ _)
    have hone := fun (op' : Int) => (IsKs.one (op := op) (nm := nm) hx)
    have hshc : ∀ (op' : Int) (n : Nat), (Slot.cells [.int .i64 op', .str [], .sl .full 3 [.agg [.int .i64 op, .str nm, x]]]).shut n = .cells [.int .i64 op', .str [], .sl .full 3 [.agg [.int .i64 op, .str nm, x]]] := fun op' n => by simp [hx.shut]
    have hkl := fun (op' : Int) => stLL2_Kept (A := A) (k := k) (cs := psC l (i : Nat) o) (cs' := psC l ((i : Int) + 1) o) (s0 := .cells [r0, r1, r2]) (s1 := .cells [.int .i64 op, .str nm, x]) (t1 := .cells [.int .i64 op', .str [], .sl .full 3 [.agg [.int .i64 op, .str nm, x]]]) (fun n => psC_shut _ _ _ n) (hshc op') hk
    have hs1 : (D.ref (A.length + 1) 0).shut (A.length + 2) = .ref (A.length + 1) 0 := shut_ref _ (by omega)
    have hs0 : (D.ref A.length 0).shut (A.length + 2) = .ref A.length 0 := shut_ref _ (by omega)
    have hsk : (D.ref k 0).shut (A.length + 2) = .ref k 0 := shut_ref _ (by omega)
    refine Tot.iter ?_
    conv => arg 2; arg 1; unfold f76_s0
    by_cases hp : opOf (wordAt l i) = 0
    · rw [if_pos hp] at h
      cases h
      rw [if_neg (fun e => opOf_no hp e.2)] at heat
      have hxc : ∀ n, (x.shut n).canon = encL 3 (ks.map encRx) := fun n => by rw [hx.shut, hx.canon]
      (repeat' first | (with_reducible first | apply Tot.of (qaq rfl) | apply Tot.of (qba rfl) | apply Tot.of (qa3 rfl) | apply Tot.of (qah rfl) | apply Tot.of (qav rfl) | apply Tot.of (qas rfl) | apply Tot.of (st_inr rfl) | apply Tot.of (qa0 rfl) | apply Tot.bql (b := true) | apply Tot.ift) | ((conv => arg 2; arg 1; simp (disch := first | omega | assumption) only [qac, Option.map_some, Option.bind_some, qao, shut_strD, shut_agg, qay, qar, qad, qal, qa1, qaf, Nat.add_zero, ofA3, packD, un_not, Bool.not_false, qa5, qbb, qbe, qaz, qag, qam, qbg, canon_agg, qat, qan, qab, qae, qax, ld_sh, qa9, ldc0, ldcS, sto_sh0, stoc0, sparts_str3, ext0, extS, st_ldo, st_sto, stL_take, r53, canon3, heat, hlay, hkp]); (with_reducible first | apply Tot.of (qaa rfl))))
      conv => arg 2; simp (disch := first | omega | assumption) only [hxc]
      refine ⟨_, rfl, ?_⟩
      show _ = _
      rw [encRx_mk]
    · rw [if_neg hp] at h
      have hlt := wordAt_in (opOf_ne hp)
      have hla : ∀ (a : Int) (b c d : D), layCells false 1 0 [d, b, c] (.int .i64 a) = some [.int .i64 a, b, c] := fun _ _ _ _ => rfl
      rcases opOf_cases hp with ⟨h1, h2⟩ | ⟨h1, h2⟩ | ⟨h1, h2⟩
      all_goals (rw [h2] at h; rw [if_pos (by simp [h1]), h1] at heat)
      · (repeat' first | (with_reducible first | apply Tot.of (qaa rfl) | apply Tot.of (qaq rfl) | apply Tot.of (st_bind rfl) | apply Tot.of (qba rfl) | apply Tot.of (qa3 rfl) | apply Tot.of (qah rfl) | apply Tot.of (qav rfl) | apply Tot.of (st_bnsum rfl) | apply Tot.of (st_bnguard rfl) | apply Tot.of (qas rfl) | apply Tot.of (st_inl rfl) | apply Tot.of (st_bngk rfl) | apply Tot.bql (b := false) | apply Tot.iff | (apply Tot.seql_f; first | assumption | decide | exact List.cons_ne_nil _ _)) | ((conv => arg 2; arg 1; simp (disch := first | omega | assumption) only [Option.map_some, qa1, qaf, Nat.add_zero, lay_sl, lay_s, ofA3, un_not, Bool.not_true, qa5, qbb, qbe, qaz, qai, qbg, ld_sh, ldc0, ldcS, sto_sh, stoc0, stocS, sparts_str3, ext0, extS, st_ldo, st_sto, r53, canon3, heat, hpx, lay3, hla, hkl]); (with_reducible first | apply Tot.of (qaa rfl) | apply Tot.of (st_guard rfl))))
        conv => arg 2; simp (disch := first | omega | assumption) only [qao, List.map_nil, Nat.zero_add, List.length_append, List.length_cons, List.length_nil, qa5, qbb, qbe, qai, qax, Nat.reduceAdd, hs0, hs1, hsk, stLL2_take]
        have := ih (i + 1) 6 [] [.mk op nm ks] _ (.int .i64 6) r0 r1 r2 z (by omega) (hone 6) h
        simp only [Int.natCast_add, Int.natCast_one] at this
        exact this
      · (repeat' first | (with_reducible first | apply Tot.of (qaa rfl) | apply Tot.of (qaq rfl) | apply Tot.of (st_bind rfl) | apply Tot.of (qba rfl) | apply Tot.of (qa3 rfl) | apply Tot.of (qah rfl) | apply Tot.of (qav rfl) | apply Tot.of (st_bnsum rfl) | apply Tot.of (st_bnguard rfl) | apply Tot.of (qas rfl) | apply Tot.of (st_inl rfl) | apply Tot.of (st_bngk rfl) | apply Tot.bql (b := true) | apply Tot.bql (b := false) | apply Tot.ift | apply Tot.iff | (apply Tot.seql_t; first | assumption | with_reducible rfl)) | ((conv => arg 2; arg 1; simp (disch := first | omega | assumption) only [Option.map_some, qa1, qaf, Nat.add_zero, lay_sl, lay_s, ofA3, un_not, Bool.not_true, qa5, qbb, qbe, qaz, qai, qbg, ld_sh, ldc0, ldcS, sto_sh, stoc0, stocS, sparts_str3, ext0, extS, st_ldo, st_sto, r53, canon3, heat, hpx, lay3, hla, hkl]); (with_reducible first | apply Tot.of (qaa rfl) | apply Tot.of (st_guard rfl))))
        conv => arg 2; simp (disch := first | omega | assumption) only [qao, List.map_nil, Nat.zero_add, List.length_append, List.length_cons, List.length_nil, qa5, qbb, qbe, qai, qax, Nat.reduceAdd, hs0, hs1, hsk, stLL2_take]
        have := ih (i + 1) 7 [] [.mk op nm ks] _ (.int .i64 7) r0 r1 r2 z (by omega) (hone 7) h
        simp only [Int.natCast_add, Int.natCast_one] at this
        exact this
      · (repeat' first | (with_reducible first | apply Tot.of (qaa rfl) | apply Tot.of (qaq rfl) | apply Tot.of (st_bind rfl) | apply Tot.of (qba rfl) | apply Tot.of (qa3 rfl) | apply Tot.of (qah rfl) | apply Tot.of (qav rfl) | apply Tot.of (st_bnsum rfl) | apply Tot.of (st_bnguard rfl) | apply Tot.of (qas rfl) | apply Tot.of (st_inl rfl) | apply Tot.of (st_bngk rfl) | apply Tot.bql (b := true) | apply Tot.bql (b := false) | apply Tot.ift | apply Tot.iff | (apply Tot.seql_t; first | assumption | with_reducible rfl) | (apply Tot.seql_f; first | assumption | decide | exact List.cons_ne_nil _ _)) | ((conv => arg 2; arg 1; simp (disch := first | omega | assumption) only [Option.map_some, qa1, qaf, Nat.add_zero, lay_sl, lay_s, ofA3, un_not, Bool.not_true, qa5, qbb, qbe, qaz, qai, qbg, ld_sh, ldc0, ldcS, sto_sh, stoc0, stocS, sparts_str3, ext0, extS, st_ldo, st_sto, r53, canon3, heat, hpx, lay3, hla, hkl]); (with_reducible first | apply Tot.of (qaa rfl) | apply Tot.of (st_guard rfl))))
        conv => arg 2; simp (disch := first | omega | assumption) only [qao, List.map_nil, Nat.zero_add, List.length_append, List.length_cons, List.length_nil, qa5, qbb, qbe, qai, qax, Nat.reduceAdd, hs0, hs1, hsk, stLL2_take]
        have := ih (i + 1) 8 [] [.mk op nm ks] _ (.int .i64 8) r0 r1 r2 z (by omega) (hone 8) h
        simp only [Int.natCast_add, Int.natCast_one] at this
        exact this
theorem progRep_step {n : Nat} (ih : ProgSpec l n) (A : St) (k o i : Nat) (x : Except (Nat × Int) (Rx × Nat)) (hk : k < A.length) (hi : i ≤ l.length) (ho : o ≤ 50) (h : pRep l (n + 1) o i = some x) :
    Tot (progOut A k l o x) (f76 mL (Run Tryd.prog rxA) (Dcall Tryd.prog rxA) (.ref k 0) (st A k (psC l (i : Nat) (o : Nat)))) := by
  simp only [pRep] at h
  unfold f76
  (repeat' first | ((conv => arg 2; arg 1; simp (disch := first | omega | assumption) only [qa6, qai, qax, st_appr]); (with_reducible first | apply Tot.of (qaa rfl))))
  conv => arg 2; arg 1; simp (disch := first | omega | assumption) only [qbg, r97]
  rcases PR.bind_some h with ⟨⟨a, c⟩, h1, rfl⟩ | ⟨r, j, h1, h2⟩
  · have hq := ih.atom (A ++ [.cells [.int .i64 0, .str [], .sl .full 0 []]]) k o i _ (lenL hk) (by omega) ho h1
    refine Tot.bn hq fun z hz => ?_
    obtain ⟨i', o', rfl⟩ := hz
    have hkp := fun L => stL_Kept (A := A) (k := k) (cs := psC l i o) (cs' := psC l i' o') (L := L) (psC_shut _ _ _ _)
    (repeat' first | (with_reducible first | apply Tot.of (st_pan rfl) | apply Tot.of (qak rfl)))
    conv => arg 2; simp (disch := first | omega | assumption) only [qac, qao, shut_agg, shut_iface, qay, qar, Res_shut_pan, qag, canon_agg, canon_iface, qat, qan, Res_canon_pan, qae, qax, stL_take, hkp]
    exact ⟨_, rfl, i', o', rfl⟩
  · have hq := ih.atom (A ++ [.cells [.int .i64 0, .str [], .sl .full 0 []]]) k o i _ (lenL hk) (by omega) ho h1
    refine Tot.bn hq fun z hz => ?_
    have g : Good l.length i r j := (facts hw n).atom o i _ (by omega) h1
    cases (show z = _ from hz)
    have hr : r = .mk r.op r.nm r.ks := by cases r; rfl
    have hx := progReps hl hw A k o i hk ho n j r.op r.nm r.ks _ (.tup []) (.int .i64 0) (.str []) (.sl .full 0 []) x g.le (IsKs.enc _) (by rw [← hr]; exact h2)
    (repeat' first | (with_reducible first | apply Tot.of (qa3 rfl) | apply Tot.of (qas rfl) | apply Tot.of (st_it rfl)) | ((conv => arg 2; arg 1; simp (disch := first | omega | assumption) only [Nat.zero_add, qa6, List.length_append, List.length_cons, List.length_nil, qaz, qai, qax, qbj, qbc, sto_sh, stoc0, stocS, stL_appr, st_sto, rx_lay]); (with_reducible first | apply Tot.of (qaa rfl))))
    conv => arg 2; simp (disch := first | omega | assumption) only []
    exact hx
end Go.Vm.Rx

/- The program's reader of words: atoms; all of it. -/
namespace Go.Vm.Rx
open Go Go.Proofs P
set_option linter.unusedVariables false
set_option linter.unusedSimpArgs false
set_option linter.unusedSectionVars false
set_option maxRecDepth 10000
set_option maxHeartbeats 2000000
variable {l : List Word} (hl : l.length ≤ 1000000) (hw : ∀ w, w ∈ l → w.t.length ≤ 100000000)
include hl hw
theorem progAtom_step {n : Nat} (ih : ProgSpec l n) (A : St) (k o i : Nat) (x : Except (Nat × Int) (Rx × Nat)) (hk : k < A.length) (hi : i ≤ l.length) (ho : o ≤ 50) (h : pAtom l (n + 1) o i = some x) :
    Tot (progOut A k l o x) (f97 mL (Run Tryd.prog rxA) (Dcall Tryd.prog rxA) (.ref k 0) (st A k (psC l (i : Nat) (o : Nat)))) := by
  simp only [pAtom] at h
  have hwi := wordAt_short hw i
  have hwi1 := wordAt_short hw (i + 1)
  have hwd := s77 (A ++ [.cells [.int .i64 0, .str [], .sl .full 0 []]]) k l i o (lenL hk) (by omega) (by omega)
  have heat := s53 (A ++ [.cells [.int .i64 0, .str [], .sl .full 0 []]]) k l i o [[40], [36], [46]] (lenL hk) (by omega) (by omega) hwi (by simp)
  have hla : ∀ (a : Int) (b c d : D), layCells false 1 0 [d, b, c] (.int .i64 a) = some [.int .i64 a, b, c] := fun _ _ _ _ => rfl
  have hlb : ∀ (a : Str) (b c d : D), layCells false 1 1 [d, b, c] (.str a) = some [d, .str a, c] := fun _ _ _ _ => rfl
  have hkp := fun i' o' L => stL_Kept (A := A) (k := k) (cs := psC l i o) (cs' := psC l i' o') (L := L) (psC_shut _ _ _ _)
  unfold f97
  by_cases h46 : wordAt l i = [46]
  · rw [if_pos h46] at h
    cases h
    rw [h46] at hwd
    rw [if_pos (by simp [h46]), h46] at heat
    (repeat' first | (with_reducible first | apply Tot.of (qaa rfl) | apply Tot.of (qba rfl) | apply Tot.of (qa3 rfl) | apply Tot.of (qah rfl) | apply Tot.of (qas rfl) | apply Tot.of (st_inl rfl) | apply Tot.of (qak rfl) | apply Tot.gbl (b := false) | apply Tot.bql (b := true) | apply Tot.bql (b := false) | apply Tot.ift | apply Tot.iff | apply Tot.ifft | (apply Tot.seql_t; first | assumption | with_reducible rfl) | (apply Tot.seql_f; first | assumption | decide | exact List.cons_ne_nil _ _)) | ((conv => arg 2; arg 1; simp (disch := first | omega | assumption) only [qaw, Option.map_some, Option.bind_some, qal, qa1, qaf, Nat.add_zero, qa6, ofA3, packD, un_not, Bool.not_true, qa5, qbb, qbe, qaz, qai, qbg, qax, qa9, ldc0, sto_sh0, stoc0, sparts_str3, ext0, extS, st_appr, st_ldo, st_sto, r77, hwd, r53, canon3, heat, lay3]); (with_reducible first | apply Tot.of (qaa rfl) | apply Tot.bql (b := false))))
    conv => arg 2; simp (disch := first | omega | assumption) only [qac, qao, shut_strD, shut_sl, shut_agg, qay, qar, own_full, qad, qag, qam, canon_agg, qat, qan, canon_nil, qab, qae, qax, stL_take, hkp]
    exact ⟨_, rfl, rfl⟩
  · rw [if_neg h46] at h
    by_cases h36 : wordAt l i = [36]
    · rw [if_pos h36] at h
      rw [h36] at hwd
      rw [if_pos (by simp [h36]), h36] at heat
      have hnm := s104 (A ++ [.cells [.int .i64 0, .str [], .sl .full 0 []]]) k l (i + 1) o (lenL hk) (by omega) (by have := wordAt_in (l := l) (i := i) (by rw [h36]; simp); omega) hwi1
      simp only [Int.natCast_add, Int.natCast_one] at hnm
      cases hn : isName (wordAt l (i + 1))
      · rw [hn] at h hnm
        rw [if_neg (by simp)] at hnm
        cases h
        (repeat' first | (with_reducible first | apply Tot.of (qaa rfl) | apply Tot.of (qba rfl) | apply Tot.of (qa3 rfl) | apply Tot.of (qah rfl) | apply Tot.of (qas rfl) | apply Tot.of (st_pan rfl) | apply Tot.of (st_inl rfl) | apply Tot.of (qak rfl) | apply Tot.gbl (b := false) | apply Tot.bql (b := true) | apply Tot.bql (b := false) | apply Tot.ift | apply Tot.iff | apply Tot.ifft | (apply Tot.seql_t; first | assumption | with_reducible rfl) | (apply Tot.seql_f; first | assumption | decide | exact List.cons_ne_nil _ _)) | ((conv => arg 2; arg 1; simp (disch := first | omega | assumption) only [qaw, leaves_pan, qa1, qaf, Nat.add_zero, qa6, un_not, Bool.not_true, qa5, qbb, qbe, qai, qbg, qax, sparts_str3, ext0, extS, st_appr, r77, hwd, r53, canon3, heat, r104, hnm]); (with_reducible first | apply Tot.of (qaa rfl) | apply Tot.bql (b := false))))
        conv => arg 2; simp (disch := first | omega | assumption) only [qac, qao, shut_agg, shut_iface, qay, qar, Res_shut_pan, qag, canon_agg, canon_iface, qat, qan, Res_canon_pan, qae, qax, stL_take, hkp]
        exact ⟨_, rfl, _, _, rfl⟩
      · rw [hn] at h hnm
        rw [if_pos rfl] at hnm
        cases h
        (repeat' first | (with_reducible first | apply Tot.of (qaa rfl) | apply Tot.of (st_bind rfl) | apply Tot.of (qba rfl) | apply Tot.of (qa3 rfl) | apply Tot.of (qah rfl) | apply Tot.of (qas rfl) | apply Tot.of (st_inl rfl) | apply Tot.of (qak rfl) | apply Tot.gbl (b := false) | apply Tot.bql (b := true) | apply Tot.bql (b := false) | apply Tot.ift | apply Tot.iff | apply Tot.ifft | (apply Tot.seql_t; first | assumption | with_reducible rfl) | (apply Tot.seql_f; first | assumption | decide | exact List.cons_ne_nil _ _)) | ((conv => arg 2; arg 1; simp (disch := first | omega | assumption) only [qaw, Option.map_some, Option.bind_some, qal, qa1, qaf, Nat.add_zero, qa6, ofA3, packD, un_not, Bool.not_true, qa5, qbb, qbe, qaz, qai, qbg, qax, qa9, ldc0, sto_sh0, stoc0, sparts_str3, ext0, extS, st_appr, st_ldo, st_sto, r77, hwd, r53, canon3, heat, lay3, r104, hnm, hla, hlb]); (with_reducible first | apply Tot.of (qaa rfl) | apply Tot.bql (b := false))))
        conv => arg 2; simp (disch := first | omega | assumption) only [qac, qao, shut_strD, shut_sl, shut_agg, qay, qar, own_full, qad, qag, qam, canon_agg, qat, qan, canon_nil, qab, qae, qax, stL_take, hkp]
        exact ⟨_, rfl, rfl⟩
    · rw [if_neg h36] at h
      by_cases h40 : wordAt l i = [40]
      · rw [if_pos h40] at h
        rw [h40] at hwd
        have hlt := wordAt_in (l := l) (i := i) (by rw [h40]; simp)
        rw [if_pos (by simp [h40]), h40] at heat
        by_cases h50 : 50 ≤ o
        · rw [if_pos h50] at h
          cases h
          have hfa := s32 (A ++ [.cells [.int .i64 0, .str [], .sl .full 0 []]]) k l i o 91 (lenL hk)
          (repeat' first | (with_reducible first | apply Tot.of (qaa rfl) | apply Tot.of (qaq rfl) | apply Tot.of (qba rfl) | apply Tot.of (qa3 rfl) | apply Tot.of (qah rfl) | apply Tot.of (qav rfl) | apply Tot.of (qas rfl) | apply Tot.of (st_pan rfl) | apply Tot.of (st_inr rfl) | apply Tot.of (qa0 rfl) | apply Tot.gbl (b := true) | apply Tot.bql (b := true) | apply Tot.ift | apply Tot.iftt | (apply Tot.seql_t; first | assumption | with_reducible rfl)) | ((conv => arg 2; arg 1; simp (disch := first | omega | assumption) only [qa8, qac, qao, shut_agg, shut_iface, qay, qar, Res_shut_pan, qa1, qaf, Nat.zero_add, Nat.add_zero, qa6, qai, qag, qbg, canon_agg, canon_iface, qat, qan, Res_canon_pan, qae, qax, stL_load, st_appr, stL_take, r77, hwd, psl2, r32, hfa, hkp]); (with_reducible first | apply Tot.of (qaa rfl) | apply Tot.bql (b := true) | (apply Tot.geq_t; omega))))
          conv => arg 2; simp (disch := first | omega | assumption) only []
          exact ⟨_, rfl, _, _, rfl⟩
        · rw [if_neg h50] at h
          have heat1 := s53 (A ++ [.cells [.int .i64 0, .str [], .sl .full 0 []]]) k l (i + 1) o [[41]] (lenL hk) (by omega) (by omega) hwi1 (by simp)
          simp only [Int.natCast_add, Int.natCast_one] at heat1
          by_cases h41 : wordAt l (i + 1) = [41]
          · rw [if_pos h41] at h
            cases h
            rw [if_pos (by simp [h41]), h41] at heat1
            (repeat' first | (with_reducible first | apply Tot.of (qaa rfl) | apply Tot.of (qba rfl) | apply Tot.of (qa3 rfl) | apply Tot.of (qah rfl) | apply Tot.of (qas rfl) | apply Tot.of (st_inl rfl) | apply Tot.of (qak rfl) | apply Tot.gbl (b := true) | apply Tot.bql (b := true) | apply Tot.bql (b := false) | apply Tot.ift | apply Tot.iff | apply Tot.iftt | (apply Tot.seql_t; first | assumption | with_reducible rfl) | (apply Tot.seql_f; first | assumption | decide | exact List.cons_ne_nil _ _)) | ((conv => arg 2; arg 1; simp (disch := first | omega | assumption) only [qa8, Option.map_some, Option.bind_some, qal, qa1, qaf, Nat.zero_add, Nat.add_zero, qa6, ofA3, packD, un_not, Bool.not_true, qa5, qbb, qbe, qaz, qai, qbg, qax, qa9, ldc0, sto_sh0, stoc0, sparts_str, sparts_str3, ext0, extS, stL_load, st_appr, st_ldo, st_sto, r77, hwd, psl2, r53, canon1, canon3, heat, heat1, lay3]); (with_reducible first | apply Tot.of (qaa rfl) | apply Tot.bql (b := false) | (apply Tot.geq_f; omega))))
            conv => arg 2; simp (disch := first | omega | assumption) only [qac, qao, shut_strD, shut_sl, shut_agg, qay, qar, own_full, qad, qag, qam, canon_agg, qat, qan, canon_nil, qab, qae, qax, stL_take, hkp]
            exact ⟨_, rfl, rfl⟩
          · rw [if_neg h41] at h
            rw [if_neg (by simp [h41])] at heat1
            (repeat' first | (with_reducible first | apply Tot.of (qaa rfl) | apply Tot.of (qba rfl) | apply Tot.of (qa3 rfl) | apply Tot.of (qah rfl) | apply Tot.of (qas rfl) | apply Tot.of (st_inl rfl) | apply Tot.gbl (b := true) | apply Tot.bql (b := true) | apply Tot.bql (b := false) | apply Tot.iff | apply Tot.iftt | (apply Tot.seql_t; first | assumption | with_reducible rfl) | (apply Tot.seql_f; first | assumption | decide | exact List.cons_ne_nil _ _)) | ((conv => arg 2; arg 1; simp (disch := first | omega | assumption) only [qa8, binO_add, qbi, qa1, qaf, Nat.zero_add, Nat.add_zero, qa6, un_not, Bool.not_true, qa5, qaz, qai, qbg, qax, sparts_str, sparts_str3, ext0, extS, stL_load, stL_store, st_appr, r77, hwd, psl2, pss2, r53, canon1, canon3, heat, heat1]); (with_reducible first | apply Tot.of (qaa rfl) | apply Tot.bql (b := false) | (apply Tot.geq_f; omega))))
            conv => arg 2; arg 1; simp (disch := first | omega | assumption) only [qa5, qbg, r31]
            rcases PR.bind_some h with ⟨⟨a, c⟩, h1, rfl⟩ | ⟨r, j, h1, h2⟩
            · have hq := ih.alt (A ++ [.cells [.int .i64 0, .str [], .sl .full 0 []]]) k (o + 1) (i + 1) _ (lenL hk) (by omega) (by omega) h1
              refine Tot.bn hq fun z hz => ?_
              obtain ⟨i', o', rfl⟩ := hz
              (repeat' first | (with_reducible first | apply Tot.of (st_pan rfl) | apply Tot.of (qak rfl)) | ((conv => arg 2; arg 1; simp (disch := first | omega | assumption) only [leaves_pan, qa5, qbb, qbe]); (with_reducible first | apply Tot.of (qaa rfl))))
              conv => arg 2; simp (disch := first | omega | assumption) only [qac, qao, shut_agg, shut_iface, qay, qar, Res_shut_pan, qag, canon_agg, canon_iface, qat, qan, Res_canon_pan, qae, qax, stL_take, hkp]
              exact ⟨_, rfl, i', o', rfl⟩
            · have hq := ih.alt (A ++ [.cells [.int .i64 0, .str [], .sl .full 0 []]]) k (o + 1) (i + 1) _ (lenL hk) (by omega) (by omega) h1
              refine Tot.bn hq fun z hz => ?_
              have g : Good l.length (i + 1) r j := (facts hw n).alt (o + 1) (i + 1) _ (by omega) h1
              have g1 := g.lt; have g2 := g.size; have g3 := g.le
              cases (show z = _ from hz)
              have hco : (o : Int) + 1 - 1 = o := by omega
              simp only [Int.natCast_add, Int.natCast_one]
              have heat2 := s53 (A ++ [.cells [.int .i64 0, .str [], .sl .full 0 []], .cells [.int .i64 r.op, .str r.nm, encL 3 (r.ks.map encRx)]]) k l j o [[41]] (lenL hk) (by omega) (by omega) (wordAt_short hw j) (by simp)
              by_cases hj : wordAt l j = [41]
              · rw [if_pos hj] at h2
                cases h2
                rw [if_pos (by simp [hj]), hj] at heat2
                (repeat' first | (with_reducible first | apply Tot.of (qaa rfl) | apply Tot.of (qba rfl) | apply Tot.of (qa3 rfl) | apply Tot.of (qah rfl) | apply Tot.of (qas rfl) | apply Tot.of (st_inl rfl) | apply Tot.of (qak rfl) | apply Tot.bql (b := false) | apply Tot.iff) | ((conv => arg 2; arg 1; simp (disch := first | omega | assumption) only [Option.map_some, Option.bind_some, binO_sub, qbi, qal, qa1, qaf, Nat.zero_add, Nat.add_zero, qa6, ofA3, packD, List.length_append, List.length_cons, List.length_nil, un_not, Bool.not_true, qa5, qbb, qbe, qaz, qai, qbg, qax, qbj, qbc, ld_sh, qa9, ldc0, ldcS, sto_sh, sto_sh0, stoc0, stocS, sparts_str, ext0, extS, stL_load, stL_store, stL_appr, st_ldo, st_sto, rx_lay, qbd, psl2, pss2, hco, r53, canon1, heat2]); (with_reducible first | apply Tot.of (qaa rfl))))
                conv => arg 2; simp (disch := first | omega | assumption) only [qac, qad, qab, qae, qax, stL_take, hkp, rx_shut, qa7]
                exact ⟨_, rfl, rfl⟩
              · rw [if_neg hj] at h2
                cases h2
                rw [if_neg (by simp [hj])] at heat2
                have hfa := s32 (A ++ [.cells [.int .i64 0, .str [], .sl .full 0 []], .cells [.int .i64 r.op, .str r.nm, encL 3 (r.ks.map encRx)]]) k l j o 90 (lenL hk)
                (repeat' first | (with_reducible first | apply Tot.of (qaq rfl) | apply Tot.of (qba rfl) | apply Tot.of (qa3 rfl) | apply Tot.of (qah rfl) | apply Tot.of (qav rfl) | apply Tot.of (qas rfl) | apply Tot.of (st_pan rfl) | apply Tot.of (st_inr rfl) | apply Tot.of (qa0 rfl) | apply Tot.bql (b := true) | apply Tot.ift) | ((conv => arg 2; arg 1; simp (disch := first | omega | assumption) only [qac, binO_sub, qbi, qao, shut_agg, shut_iface, qay, qar, Res_shut_pan, leaves_pan, qa1, qaf, Nat.zero_add, Nat.add_zero, qa6, List.length_append, List.length_cons, List.length_nil, un_not, Bool.not_false, qa5, qbb, qbe, qaz, qai, qag, qbg, canon_agg, canon_iface, qat, qan, Res_canon_pan, qae, qax, qbj, qbc, sto_sh, stoc0, stocS, sparts_str, ext0, extS, stL_load, stL_store, stL_appr, st_sto, stL_take, rx_lay, psl2, pss2, hco, r53, canon1, heat2, hkp, r32, hfa]); (with_reducible first | apply Tot.of (qaa rfl))))
                conv => arg 2; simp (disch := first | omega | assumption) only []
                exact ⟨_, rfl, _, _, rfl⟩
      · rw [if_neg h40] at h
        rw [if_neg (by simp [h40, h36, h46])] at heat
        have hnm := s104 (A ++ [.cells [.int .i64 0, .str [], .sl .full 0 []]]) k l i o (lenL hk) (by omega) (by omega) hwi
        cases hn : isName (wordAt l i)
        · rw [hn] at h hnm
          rw [if_neg (by simp)] at hnm
          cases h
          (repeat' first | (with_reducible first | apply Tot.of (qaa rfl) | apply Tot.of (qba rfl) | apply Tot.of (qa3 rfl) | apply Tot.of (qah rfl) | apply Tot.of (qas rfl) | apply Tot.of (st_pan rfl) | apply Tot.of (st_inl rfl) | apply Tot.of (qak rfl) | apply Tot.gbl (b := false) | apply Tot.bql (b := true) | apply Tot.bql (b := false) | apply Tot.ift | apply Tot.iff | apply Tot.ifft | (apply Tot.seql_f; first | assumption | decide | exact List.cons_ne_nil _ _)) | ((conv => arg 2; arg 1; simp (disch := first | omega | assumption) only [qaw, leaves_pan, qa1, qaf, Nat.add_zero, qa6, un_not, Bool.not_false, qa5, qbb, qbe, qai, qbg, qax, sparts_str3, ext0, extS, st_appr, r77, hwd, r53, canon3, heat, r104, hnm]); (with_reducible first | apply Tot.of (qaa rfl) | apply Tot.bql (b := false))))
          conv => arg 2; simp (disch := first | omega | assumption) only [qac, qao, shut_agg, shut_iface, qay, qar, Res_shut_pan, qag, canon_agg, canon_iface, qat, qan, Res_canon_pan, qae, qax, stL_take, hkp]
          exact ⟨_, rfl, _, _, rfl⟩
        · rw [hn] at h hnm
          rw [if_pos rfl] at hnm
          cases h
          (repeat' first | (with_reducible first | apply Tot.of (qaa rfl) | apply Tot.of (st_bind rfl) | apply Tot.of (qba rfl) | apply Tot.of (qa3 rfl) | apply Tot.of (qah rfl) | apply Tot.of (qas rfl) | apply Tot.of (st_inl rfl) | apply Tot.of (qak rfl) | apply Tot.gbl (b := false) | apply Tot.bql (b := true) | apply Tot.bql (b := false) | apply Tot.ift | apply Tot.iff | apply Tot.ifft | (apply Tot.seql_f; first | assumption | decide | exact List.cons_ne_nil _ _)) | ((conv => arg 2; arg 1; simp (disch := first | omega | assumption) only [qaw, Option.map_some, Option.bind_some, qal, qa1, qaf, Nat.add_zero, qa6, ofA3, packD, un_not, Bool.not_false, qa5, qbb, qbe, qaz, qai, qbg, qax, qa9, ldc0, sto_sh0, stoc0, sparts_str3, ext0, extS, st_appr, st_ldo, st_sto, r77, hwd, r53, canon3, heat, lay3, r104, hnm, hla, hlb]); (with_reducible first | apply Tot.of (qaa rfl) | apply Tot.bql (b := false))))
          conv => arg 2; simp (disch := first | omega | assumption) only [qac, qao, shut_strD, shut_sl, shut_agg, qay, qar, own_full, qad, qag, qam, canon_agg, qat, qan, canon_nil, qab, qae, qax, stL_take, hkp]
          exact ⟨_, rfl, rfl⟩
theorem progSpec : ∀ n, ProgSpec l n
  | 0 => ⟨fun _ _ _ _ _ _ _ _ h => by simp [pAlt] at h, fun _ _ _ _ _ _ _ _ _ _ _ _ _ _ _ _ _ _ _ h => by simp [pAlts] at h, fun _ _ _ _ _ _ _ _ h => by simp [pSeq] at h, fun _ _ _ _ _ _ _ _ _ _ _ _ _ _ _ _ _ _ _ h => by simp [pSeqs] at h,
      fun _ _ _ _ _ _ _ _ h => by simp [pRep] at h, fun _ _ _ _ _ _ _ _ h => by simp [pAtom] at h⟩
  | n + 1 => by
    have ih := progSpec n
    exact ⟨fun A k o i x h1 h2 h3 h4 => progAlt_step hl hw ih A k o i x h1 h2 h3 h4,
      fun A k o i i0 acc b x r0 r1 r2 h1 h2 h3 h4 h5 h6 h7 h8 h9 => progAlts_step hl hw ih A k o i i0 acc b x r0 r1 r2 h1 h2 h3 h4 h5 h6 h7 h8 h9,
      fun A k o i x h1 h2 h3 h4 => progSeq_step hl hw ih A k o i x h1 h2 h3 h4,
      fun A k o i i0 acc b x r0 r1 r2 h1 h2 h3 h4 h5 h6 h7 h8 h9 => progSeqs_step hl hw ih A k o i i0 acc b x r0 r1 r2 h1 h2 h3 h4 h5 h6 h7 h8 h9,
      fun A k o i x h1 h2 h3 h4 => progRep_step hl hw ih A k o i x h1 h2 h3 h4,
      fun A k o i x h1 h2 h3 h4 => progAtom_step hl hw ih A k o i x h1 h2 h3 h4⟩
end Go.Vm.Rx
