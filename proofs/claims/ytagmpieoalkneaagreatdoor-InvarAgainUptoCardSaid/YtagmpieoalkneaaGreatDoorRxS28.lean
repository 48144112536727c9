/- RxS26, RxS27, RxS28 in one text. -/
import Derived.Test.YtagmpieoalkneaaGreatDoorRxS25
set_option linter.all false
/- The program's reader of words: rows of parts. -/
namespace Go.Vm.Rx
open Go Go.Proofs P
set_option maxRecDepth 10000
set_option maxHeartbeats 1100000
variable {l : List Word} (hl : l.length ≤ 1100000) (hw : ∀ w,w ∈ l → w.t.length ≤ 100000000)
theorem starts_no {w : Str} (h : starts w = false) : ¬ w = [36] ∧ ¬ w = [46] ∧ ¬ w = [40] ∧ isName w = false:=by
  simp only [starts,Bool.or_eq_false_iff,beq_eq_false_iff_ne,ne_eq] at h
  exact ⟨h.1.1.1,h.1.1.2,h.1.2,h.2⟩
theorem isName36 : isName [36] = false:=by decide
theorem isName46 : isName [46] = false:=by decide
theorem isName40 : isName [40] = false:=by decide
theorem starts_cases {w : Str} (h : starts w = true) : isName w = true ∨ w = [36] ∨ w = [46] ∨ w = [40]:=by
  simp only [starts,Bool.or_eq_true,beq_iff_eq] at h
  rcases h with ((h | h) | h) | h
  · exact .inr (.inl h)
  · exact .inr (.inr (.inl h))
  · exact .inr (.inr (.inr h))
  · exact .inl h
include hl hw
theorem progSeq_exit (A : St) (k : Nat) (hk : k < A.length) (i o : Nat) (i0 o0 : Int) (acc : List Rx) (b : Option Nat) (r0 r1 r2 : D) (hb : AccOk b 3 (acc.map encRx)) (hs : Rx.sizes acc ≤ 90000000) (hi : i ≤ 2000000)
    (hne : starts (wordAt l i) = false) :
    LP Tryz.prog rxA 145 [0,1,0,1,1] [(st A k (psC l i0 o0))] (Env.mk (sp [(0,.ref k 0),(1,.ref A.length 0),(0,accD b (A.length + 1) 3 (acc.map encRx)),(0,.str (wordAt l i))] 38) []) (st (accA b (A ++ [.cells [r0,r1,r2]]) (acc.map encRx)) k (psC l i o)) =
      some (.ret (encRx (join 4 acc)),st A k (psC l i o)):=by
  have hwi:=wordAt_short hw i
  have hnm:=fun A => s34 (wordAt l i) (by omega) A
  obtain ⟨n1,n2,n3,n4⟩:=starts_no hne
  rw [n4] at hnm
  have hls:=Rx.len_sizes acc
  have hfl:=flat_len 4 acc
  have hj:=fun A => s147 A 4 acc (by omega) (by omega)
  have hcn:=acc_canon (c:=A.length + 1) hb (plainRxs acc)
  have hkp:=fun L b ds => stA_Kept (A:=A) (k:=k) (cs:=psC l i0 o0) (cs':=psC l i o) (L:=L) (b:=b) (ds:=ds) (psC_shut _ _ _ _)
  refine qbc (qbj (q145_0 ..) ?_)
  unfold n145_0; dsimp only
  by_cases hc : (acc.length : Int) = 1
  · obtain ⟨r,rfl⟩ : ∃ r,acc = [r]:=by
      cases acc with
      | nil => simp at hc
      | cons r l => cases l with
        | nil => exact ⟨r,rfl⟩
        | cons _ _ => simp at hc; omega
    have hx:=idx_acc1 (c:=A.length + 1) (g:=true) (k:=.i64) (d:=encRx r) hb
    have hl1 : ([r] : List Rx).length = 1:=rfl
    simp only [List.map_cons,List.map_nil] at hcn ⊢
    (repeat' first | (with_reducible first | apply qab | apply qa4 | apply qbn | apply qat | apply qai | apply qaw (b:=false) | apply qaa (b:=true) | apply qaa (b:=false) | apply qaq | apply qao | apply tot_ifff | (apply tot_eql_t; omega)) | ((conv => arg 2; arg 1; simp (disch:=first | omega | assumption) only [bn_some,qbf,Option.map_some,qar,qbg,Nat.zero_add,ofA3,List.length_cons,List.length_nil,qa6,qbd,qbb,qa0,qap,len_acc,acc_ld0,acc_sto0,st_ldo,st_sto,r34,hnm,hx,rx_cell,rx_lay,rx_fold]); (with_reducible first | apply qab | apply qaw (b:=false) | apply qaa (b:=false) | (apply qbz; first | assumption | decide | exact List.cons_ne_nil _ _))))
    ((try conv => arg 2; simp (disch:=first | omega | assumption) only [qac,qae,qad,qag,qam,stA_take,hkp,rx_shut,rx_canon]); refine qak ?_)
    rfl
  · rw [join_eq (fun r e => hc (by rw [e]; rfl))]
    (repeat' first | (with_reducible first | apply qab | apply qa4 | apply qbn | apply qat | apply qai | apply qaw (b:=false) | apply qaa (b:=false) | apply qao | apply tot_ifff | (apply tot_eql_f; omega)) | ((conv => arg 2; arg 1; simp (disch:=first | omega | assumption) only [bn_some,qbf,Option.map_some,qar,ofA3,qa6,qbd,qbb,qa0,qah,qap,len_acc,List.length_map,acc_ld0,acc_sto0,st_ldo,st_sto,r34,hnm,hcn,r147,hj,rx_lay,rx_fold]); (with_reducible first | apply qab | apply qaw (b:=false) | apply qaa (b:=false) | (apply qbz; first | assumption | decide | exact List.cons_ne_nil _ _))))
    ((try conv => arg 2; simp (disch:=first | omega | assumption) only [qac,qae,qad,qag,qam,stA_take,hkp,rx_shut,rx_canon]); refine qak ?_)
    rfl
theorem progSeqs_step {n : Nat} (ih : ProgSpec l n) (A : St) (k o i i0 : Nat) (acc : List Rx) (b : Option Nat) (x : Except (Nat × Int) (Rx × Nat)) (r0 r1 r2 : D) (hk : k < A.length) (h0 : i0 < i) (hi : i ≤ l.length) (hne : acc ≠ []) (hs : Rx.sizes acc + acc.length ≤ 2 * (i - i0)) (hn : Rx.Nms acc) (hb : AccOk b 3 (acc.map encRx)) (ho : o ≤ 50) (h : pSeqs l (n + 1) o i acc = some x) :
    Tot (progOut A k l o x) (LP Tryz.prog rxA 145 [0,1,0,1,1] [(st A k (psC l (i0 : Nat) (o : Nat)))] (Env.mk (sp [(0,.ref k 0),(1,.ref A.length 0),(0,accD b (A.length + 1) 3 (acc.map encRx)),(0,.str (wordAt l i))] 38) []) (st (accA b (A ++ [.cells [r0,r1,r2]]) (acc.map encRx)) k (psC l (i : Nat) (o : Nat)))):=by
  have hls:=Rx.len_sizes acc
  simp only [pSeqs] at h
  by_cases hp : starts (wordAt l i) = true
  · rw [if_pos hp] at h
    have hlt:=qbw (l:=l) (i:=i) (starts_ne hp)
    have hnm:=fun A => s34 (wordAt l i) (by have:=wordAt_short hw i; omega) A
    have hap:=fun cs r => st_app1_1 (A:=A) (k:=k) (w:=48) (n:=3) (s0:=.cells [r0,r1,r2]) (cs:=cs) (d:=encRx r) hb (by simp; omega) (by omega) hk
    have hml : ∀ r,acc.map encRx ++ [encRx r] = (acc ++ [r]).map encRx:=fun r => by simp
    simp only [hml] at hap
    refine qbj (q145_0 ..) ?_
    unfold n145_0; dsimp only
    rcases starts_cases hp with hz0 | hz0 | hz0 | hz0 <;> (first | rw [hz0] at hnm ⊢ | rw [hz0] at hnm; try simp only [isName36,isName46,isName40] at hnm)
    all_goals ((repeat' first | (with_reducible first | apply qab | apply qa4 | apply qbn | apply qat | apply qaw (b:=true) | apply qaw (b:=false) | apply qaa (b:=true) | apply qaq | apply tot_iftf | apply tot_ifff | (apply tot_gb_t; assumption) | (apply tot_gb_f; assumption) | (apply tot_bq_t; assumption) | (apply tot_bq_f; assumption) | (apply tot_gb; all_goals intro hsp)) | ((conv => arg 2; arg 1; simp (disch:=first | omega | assumption) only [qbm,qbf,qa6,qbd,qbb,qap,r34,hnm]); (with_reducible first | apply qab | apply qaw (b:=true) | apply qaw (b:=false) | apply qaa (b:=true) | apply qaa (b:=false) | (apply tot_seql_t; first | assumption | with_reducible rfl) | (apply qbz; first | assumption | decide | exact List.cons_ne_nil _ _)))))
    all_goals (conv => arg 2; arg 1; simp (disch:=first | omega | assumption) only [qa6,qay,r171])
    all_goals (
      rcases PR.bind_some h with ⟨⟨a,c⟩,h1,rfl⟩ | ⟨r,j,h1,h2⟩
      · have hq:=ih.rep (accA b (A ++ [.cells [r0,r1,r2]]) (acc.map encRx)) k o i _ (lenA (lenL hk)) (by omega) ho h1
        refine tot_bn hq fun z hz => ?_
        obtain ⟨i',o',rfl⟩:=hz
        have hkp:=fun L b ds => stA_Kept (A:=A) (k:=k) (cs:=psC l i0 o) (cs':=psC l i' o') (L:=L) (b:=b) (ds:=ds) (psC_shut _ _ _ _)
        (repeat' first | (with_reducible first | apply tp_pan | apply qai) | ((conv => arg 2; arg 1; simp only [leaves_pan,qa6,qbd,qbb]); (with_reducible apply qab)))
        try (conv => arg 2; simp (disch:=first | omega | assumption) only [qac,qaj,shut_agg,shut_iface,qax,qau,qbh,qah,qby,canon_iface,qav,qas,qbe,qag,qam,stA_take,hkp])
        exact ⟨_,rfl,i',o',rfl⟩
      · have hq:=ih.rep (accA b (A ++ [.cells [r0,r1,r2]]) (acc.map encRx)) k o i _ (lenA (lenL hk)) (by omega) ho h1
        refine tot_bn hq fun z hz => ?_
        have g : P.Good l.length i r j:=(facts hw n).rep o i _ (by omega) h1
        have g1:=g.lt; have g2:=g.size; have g3:=g.le
        cases (show z = _ from hz)
        have hwd:=s172 (accA none (A ++ [.cells [r0,r1,r2]]) ((acc ++ [r]).map encRx)) k l j o (lenA (lenL hk)) (by omega) (by omega)
        have hx:=ih.seqs A k o j i0 (acc ++ [r]) none x r0 r1 r2 hk (by omega) g.le (by simp) (by simp only [Rx.sizes_append,Rx.sizes,List.length_append,List.length_cons,List.length_nil]; omega) ((Rx.Nms_append _ _).2 ⟨hn,g.nm,trivial⟩) (.own _ _) ho h2
        (repeat' first | (with_reducible first | apply qa4 | apply qat) | ((conv => arg 2; arg 1; simp (disch:=first | omega | assumption) only [qan,qaf,Nat.add_zero,qa6,qbd,qbb,qay,sp3_rx,hap,r172,hwd]); (with_reducible apply qab)))
        conv => arg 2; simp only [qa6,qbd,qbb]
        exact hx)
  · rw [if_neg hp] at h
    cases h
    exact ⟨_,progSeq_exit hl hw A k hk i o i0 o acc b r0 r1 r2 hb (by omega) (by omega) (by simpa using hp),rfl⟩
theorem progSeq_step {n : Nat} (ih : ProgSpec l n) (A : St) (k o i : Nat) (x : Except (Nat × Int) (Rx × Nat)) (hk : k < A.length) (hi : i ≤ l.length) (ho : o ≤ 50) (h : pSeq l (n + 1) o i = some x) :
    Tot (progOut A k l o x) (f145 (.ref k 0) (st A k (psC l (i : Nat) (o : Nat)))):=by
  simp only [pSeq] at h
  unfold f145 n145; dsimp only
  (repeat' first | ((conv => arg 2; arg 1; simp (disch:=first | omega | assumption) only [qbo,qam,st_appr]); (with_reducible apply qab)))
  conv => arg 2; arg 1; simp (disch:=first | omega | assumption) only [qay,r171]
  rcases PR.bind_some h with ⟨⟨a,c⟩,h1,rfl⟩ | ⟨r,j,h1,h2⟩
  · have hq:=ih.rep (A ++ [.cells [.int .i64 0,.str [],.sl .full 0 []]]) k o i _ (lenL hk) (by omega) ho h1
    refine tot_bn hq fun z hz => ?_
    obtain ⟨i',o',rfl⟩:=hz
    have hkp:=fun L => stL_Kept (A:=A) (k:=k) (cs:=psC l i o) (cs':=psC l i' o') (L:=L) (psC_shut _ _ _ _)
    (repeat' first | (with_reducible first | apply tp_pan | apply qai))
    conv => arg 2; simp (disch:=first | omega | assumption) only [qac,qaj,shut_agg,shut_iface,qax,qau,qbh,qah,qby,canon_iface,qav,qas,qbe,qag,qam,stL_take,hkp]
    exact ⟨_,rfl,i',o',rfl⟩
  · have hq:=ih.rep (A ++ [.cells [.int .i64 0,.str [],.sl .full 0 []]]) k o i _ (lenL hk) (by omega) ho h1
    refine tot_bn hq fun z hz => ?_
    have g : P.Good l.length i r j:=(facts hw n).rep o i _ (by omega) h1
    have g1:=g.lt; have g2:=g.size; have g3:=g.le
    cases (show z = _ from hz)
    have hwd:=s172 (A ++ [.cells [.int .i64 0,.str [],.sl .full 0 []]]) k l j o (lenL hk) (by omega) (by omega)
    have hx:=ih.seqs A k o j i [r] (some 3) x (.int .i64 0) (.str []) (.sl .full 0 []) hk g.lt g.le (by simp) (by simp only [Rx.sizes,List.length_cons,List.length_nil]; omega) ⟨g.nm,trivial⟩ (.full _ _) ho h2
    (repeat' first | (with_reducible first | apply qa4 | apply qat) | ((conv => arg 2; arg 1; simp (disch:=first | omega | assumption) only [qan,qaf,Nat.add_zero,qay,sp3_rx,r172,hwd]); (with_reducible apply qab)))
    conv => arg 2; simp only []
    exact hx
end Go.Vm.Rx

/- The program's reader of words: repetitions. -/
namespace Go.Vm.Rx
open Go Go.Proofs P
set_option maxRecDepth 10000
set_option maxHeartbeats 1100000
variable {l : List Word} (hl : l.length ≤ 1100000) (hw : ∀ w,w ∈ l → w.t.length ≤ 100000000)
theorem opOf_cases {w : Str} (h : ¬ opOf w = 0) : (w = [42] ∧ opOf w = 6) ∨ (w = [43] ∧ opOf w = 7) ∨ (w = [63] ∧ opOf w = 8):=by
  unfold opOf at h ⊢
  split
  · exact .inl ⟨‹_›,rfl⟩
  · split
    · exact .inr (.inl ⟨‹_›,rfl⟩)
    · split
      · exact .inr (.inr ⟨‹_›,rfl⟩)
      · rename_i h1 h2 h3; rw [if_neg h1,if_neg h2,if_neg h3] at h; exact absurd rfl h
theorem opOf_no {w : Str} (h : opOf w = 0) : ¬ w ∈ [[42],[43],[63]]:=by
  intro e
  simp only [List.mem_cons,List.not_mem_nil,or_false] at e
  rcases e with rfl | rfl | rfl <;> revert h <;> decide
include hl hw
theorem progReps (A : St) (k o i0 : Nat) (hk : k < A.length) (ho : o ≤ 50) : ∀ (n i : Nat) (op : Int) (nm : Str) (ks : List Rx) (x y r0 r1 r2 : D) (z : Except (Nat × Int) (Rx × Nat)),i ≤ l.length → IsKs x ks → pReps l n i (.mk op nm ks) = some z →
    Tot (progOut A k l o z) (LP Tryz.prog rxA 171 [0,1,1] [(st A k (psC l (i0 : Nat) (o : Nat)))] (Env.mk (sp [(0,.ref k 0),(1,.ref A.length 0),(0,.ref (A.length + 1) 0),(21,y)] 3) [])
      (st (A ++ [.cells [r0,r1,r2],.cells [.int .i64 op,.str nm,x]]) k (psC l (i : Nat) (o : Nat)))):=by
  intro n
  induction n with
  | zero => intro i op nm ks x y r0 r1 r2 z hi hx h; cases h
  | succ n ih =>
    intro i op nm ks x y r0 r1 r2 z hi hx h
    simp only [pReps] at h
    have heat:=s146 (A ++ [.cells [r0,r1,r2],.cells [.int .i64 op,.str nm,x]]) k l i o [[42],[43],[63]] (lenL hk) (by omega) (by omega) (wordAt_short hw i) (by simp)
    have hlay:=ks_lay hx op nm
    have hpx:=ks_sp hx op nm
    have hret:=ks_ret hx op nm
    have hkp:=fun L => stL_Kept (A:=A) (k:=k) (cs:=psC l i0 o) (cs':=psC l i o) (L:=L) (psC_shut _ _ _ _)
    have hone:=fun (op' : Int) => (IsKs.one (op:=op) (nm:=nm) hx)
    have hshc : ∀ (op' : Int) (n : Nat),(Slot.cells [.int .i64 op',.str [],.sl .full 3 [.agg [.int .i64 op,.str nm,x]]]).shut n = .cells [.int .i64 op',.str [],.sl .full 3 [.agg [.int .i64 op,.str nm,x]]]:=fun op' n => by simp [hx.shut]
    have hkl:=fun (op' : Int) => stLL2_Kept (A:=A) (k:=k) (cs:=psC l (i : Nat) o) (cs':=psC l ((i : Int) + 1) o) (s0:=.cells [r0,r1,r2]) (s1:=.cells [.int .i64 op,.str nm,x]) (t1:=.cells [.int .i64 op',.str [],.sl .full 3 [.agg [.int .i64 op,.str nm,x]]]) (fun n => psC_shut _ _ _ n) (hshc op') hk
    have hs1 : (D.ref (A.length + 1) 0).shut (A.length + 2) = .ref (A.length + 1) 0:=shut_ref _ (by omega)
    have hs0 : (D.ref A.length 0).shut (A.length + 2) = .ref A.length 0:=shut_ref _ (by omega)
    have hsk : (D.ref k 0).shut (A.length + 2) = .ref k 0:=shut_ref _ (by omega)
    refine qbj (q171_0 ..) ?_
    unfold n171_0; dsimp only
    by_cases hp : opOf (wordAt l i) = 0
    · rw [if_pos hp] at h
      cases h
      rw [if_neg (fun e => opOf_no hp e.2)] at heat
      have hxc : ∀ n,(x.shut n).canon = encL 3 (ks.map encRx):=fun n => by rw [hx.shut,hx.canon]
      (repeat' first | (with_reducible first | apply qa4 | apply qat | apply qai | apply qaa (b:=true) | apply qaq) | ((conv => arg 2; arg 1; simp (disch:=first | omega | assumption) only [bn_some,Option.map_some,qar,qan,qaf,Nat.add_zero,ofA3,un_not,Bool.not_false,qa6,qbd,qbb,qa0,qay,ld_sh,qbp,ldc0,ldcS,sto_sh0,stoc0,sparts_str3,ext0,extS,st_ldo,st_sto,r146,canon3,heat,hlay]); (with_reducible apply qab)))
      conv => arg 2; simp (disch:=first | omega | assumption) only [qac,qaj,qbs,shut_agg,qax,qau,qae,qah,qap,qby,qav,qas,qad,qag,qam,stL_take,hkp,hxc]
      refine ⟨_,rfl, ?_⟩
      show _ = _
      rw [encRx_mk]
    · rw [if_neg hp] at h
      have hlt:=qbw (opOf_ne hp)
      have hla : ∀ (a : Int) (b c d : D),layCells false 1 0 [d,b,c] (.int .i64 a) = some [.int .i64 a,b,c]:=fun _ _ _ _ => rfl
      rcases opOf_cases hp with ⟨h1,h2⟩ | ⟨h1,h2⟩ | ⟨h1,h2⟩
      all_goals (rw [h2] at h; rw [if_pos (by simp [h1]),h1] at heat)
      · (repeat' first | (with_reducible first | (apply qbu; intro hkk hke) | (apply tot_jk; · assumption) | apply qab | apply tp_bnbn | apply qa4 | apply qat | apply tp_gk | apply qaa (b:=false) | apply qao | (apply qbz; first | assumption | decide | exact List.cons_ne_nil _ _)) | ((conv => arg 2; arg 1; simp (disch:=first | omega | assumption) only [Option.map_some,qan,qaf,Nat.add_zero,lay_sl,lay_s,ofA3,un_not,Bool.not_true,qa6,qbd,qbb,qa0,qay,ld_sh,ldc0,ldcS,sto_sh,stoc0,stocS,sparts_str3,ext0,extS,eg_0,eg_S,st_ldo,st_sto,r146,canon3,heat,hpx,lay3,hla,hkl]); (with_reducible first | apply qab | apply qbi)))
        conv => arg 2; simp (disch:=first | omega | assumption) only [qaj,qbr,List.map_nil,Nat.zero_add,List.length_append,List.length_cons,List.length_nil,qa6,qbd,qbb,qam,Nat.reduceAdd,eg_0,eg_S,hs0,hs1,hsk,stLL2_take]
        have:=ih (i + 1) 6 [] [.mk op nm ks] _ (.int .i64 6) r0 r1 r2 z (by omega) (hone 6) h
        simp only [Int.natCast_add,Int.natCast_one] at this
        exact this
      · (repeat' first | (with_reducible first | (apply qbu; intro hkk hke) | (apply tot_jk; · assumption) | apply qab | apply tp_bnbn | apply qa4 | apply qat | apply tp_gk | apply qaa (b:=true) | apply qaa (b:=false) | apply qaq | apply qao | (apply tot_seql_t; first | assumption | with_reducible rfl)) | ((conv => arg 2; arg 1; simp (disch:=first | omega | assumption) only [Option.map_some,qan,qaf,Nat.add_zero,lay_sl,lay_s,ofA3,un_not,Bool.not_true,qa6,qbd,qbb,qa0,qay,ld_sh,ldc0,ldcS,sto_sh,stoc0,stocS,sparts_str3,ext0,extS,eg_0,eg_S,st_ldo,st_sto,r146,canon3,heat,hpx,lay3,hla,hkl]); (with_reducible first | apply qab | apply qbi)))
        conv => arg 2; simp (disch:=first | omega | assumption) only [qaj,qbr,List.map_nil,Nat.zero_add,List.length_append,List.length_cons,List.length_nil,qa6,qbd,qbb,qam,Nat.reduceAdd,eg_0,eg_S,hs0,hs1,hsk,stLL2_take]
        have:=ih (i + 1) 7 [] [.mk op nm ks] _ (.int .i64 7) r0 r1 r2 z (by omega) (hone 7) h
        simp only [Int.natCast_add,Int.natCast_one] at this
        exact this
      · (repeat' first | (with_reducible first | (apply qbu; intro hkk hke) | (apply tot_jk; · assumption) | apply qab | apply tp_bnbn | apply qa4 | apply qat | apply tp_gk | apply qaa (b:=true) | apply qaa (b:=false) | apply qaq | apply qao | (apply tot_seql_t; first | assumption | with_reducible rfl) | (apply qbz; first | assumption | decide | exact List.cons_ne_nil _ _)) | ((conv => arg 2; arg 1; simp (disch:=first | omega | assumption) only [Option.map_some,qan,qaf,Nat.add_zero,lay_sl,lay_s,ofA3,un_not,Bool.not_true,qa6,qbd,qbb,qa0,qay,ld_sh,ldc0,ldcS,sto_sh,stoc0,stocS,sparts_str3,ext0,extS,eg_0,eg_S,st_ldo,st_sto,r146,canon3,heat,hpx,lay3,hla,hkl]); (with_reducible first | apply qab | apply qbi)))
        conv => arg 2; simp (disch:=first | omega | assumption) only [qaj,qbr,List.map_nil,Nat.zero_add,List.length_append,List.length_cons,List.length_nil,qa6,qbd,qbb,qam,Nat.reduceAdd,eg_0,eg_S,hs0,hs1,hsk,stLL2_take]
        have:=ih (i + 1) 8 [] [.mk op nm ks] _ (.int .i64 8) r0 r1 r2 z (by omega) (hone 8) h
        simp only [Int.natCast_add,Int.natCast_one] at this
        exact this
theorem progRep_step {n : Nat} (ih : ProgSpec l n) (A : St) (k o i : Nat) (x : Except (Nat × Int) (Rx × Nat)) (hk : k < A.length) (hi : i ≤ l.length) (ho : o ≤ 50) (h : pRep l (n + 1) o i = some x) :
    Tot (progOut A k l o x) (f171 (.ref k 0) (st A k (psC l (i : Nat) (o : Nat)))):=by
  simp only [pRep] at h
  unfold f171 n171; dsimp only
  (repeat' first | ((conv => arg 2; arg 1; simp (disch:=first | omega | assumption) only [qbo,qam,st_appr]); (with_reducible apply qab)))
  conv => arg 2; arg 1; simp (disch:=first | omega | assumption) only [qay,r195]
  rcases PR.bind_some h with ⟨⟨a,c⟩,h1,rfl⟩ | ⟨r,j,h1,h2⟩
  · have hq:=ih.atom (A ++ [.cells [.int .i64 0,.str [],.sl .full 0 []]]) k o i _ (lenL hk) (by omega) ho h1
    refine tot_bn hq fun z hz => ?_
    obtain ⟨i',o',rfl⟩:=hz
    have hkp:=fun L => stL_Kept (A:=A) (k:=k) (cs:=psC l i o) (cs':=psC l i' o') (L:=L) (psC_shut _ _ _ _)
    (repeat' first | (with_reducible first | apply tp_pan | apply qai))
    conv => arg 2; simp (disch:=first | omega | assumption) only [qac,qaj,shut_agg,shut_iface,qax,qau,qbh,qah,qby,canon_iface,qav,qas,qbe,qag,qam,stL_take,hkp]
    exact ⟨_,rfl,i',o',rfl⟩
  · have hq:=ih.atom (A ++ [.cells [.int .i64 0,.str [],.sl .full 0 []]]) k o i _ (lenL hk) (by omega) ho h1
    refine tot_bn hq fun z hz => ?_
    have g : P.Good l.length i r j:=(facts hw n).atom o i _ (by omega) h1
    cases (show z = _ from hz)
    have hr : r = .mk r.op r.nm r.ks:=by cases r; rfl
    have hx:=progReps hl hw A k o i hk ho n j r.op r.nm r.ks _ (.tup []) (.int .i64 0) (.str []) (.sl .full 0 []) x g.le (IsKs.enc _) (by rw [← hr]; exact h2)
    (repeat' first | (with_reducible first | apply qa4 | apply qat) | ((conv => arg 2; arg 1; simp (disch:=first | omega | assumption) only [Nat.zero_add,qbo,List.length_append,List.length_cons,List.length_nil,qa0,qam,app_nil',qbx,sto_sh,stoc0,stocS,stL_appr,st_sto,rx_lay]); (with_reducible apply qab)))
    conv => arg 2; simp only []
    exact hx
end Go.Vm.Rx

/- The program's reader of words: atoms; all of it. -/
namespace Go.Vm.Rx
open Go Go.Proofs P
set_option maxRecDepth 10000
set_option maxHeartbeats 2000000
variable {l : List Word} (hl : l.length ≤ 1100000) (hw : ∀ w,w ∈ l → w.t.length ≤ 100000000)
include hl hw
theorem progAtom_step {n : Nat} (ih : ProgSpec l n) (A : St) (k o i : Nat) (x : Except (Nat × Int) (Rx × Nat)) (hk : k < A.length) (hi : i ≤ l.length) (ho : o ≤ 50) (h : pAtom l (n + 1) o i = some x) :
    Tot (progOut A k l o x) (f195 (.ref k 0) (st A k (psC l (i : Nat) (o : Nat)))):=by
  simp only [pAtom] at h
  have hwi:=wordAt_short hw i
  have hwi1:=wordAt_short hw (i + 1)
  have hwd:=s172 (A ++ [.cells [.int .i64 0,.str [],.sl .full 0 []]]) k l i o (lenL hk) (by omega) (by omega)
  have heat:=s146 (A ++ [.cells [.int .i64 0,.str [],.sl .full 0 []]]) k l i o [[40],[36],[46]] (lenL hk) (by omega) (by omega) hwi (by simp)
  have hla : ∀ (a : Int) (b c d : D),layCells false 1 0 [d,b,c] (.int .i64 a) = some [.int .i64 a,b,c]:=fun _ _ _ _ => rfl
  have hlb : ∀ (a : Str) (b c d : D),layCells false 1 1 [d,b,c] (.str a) = some [d,.str a,c]:=fun _ _ _ _ => rfl
  have hkp:=fun i' o' L => stL_Kept (A:=A) (k:=k) (cs:=psC l i o) (cs':=psC l i' o') (L:=L) (psC_shut _ _ _ _)
  unfold f195 n195; dsimp only
  by_cases h46 : wordAt l i = [46]
  · rw [if_pos h46] at h
    cases h
    rw [h46] at hwd
    rw [if_pos (by simp [h46]),h46] at heat
    (repeat' first | (with_reducible first | (apply qbu; intro hkk hke) | (apply tot_jk; · assumption) | apply qab | apply tp_bnbn | apply qa4 | apply qbn | apply qat | apply qai | apply qaw (b:=false) | apply qaa (b:=true) | apply qaa (b:=false) | apply qaq | apply qao | apply tot_ifft | (apply tot_seql_t; first | assumption | with_reducible rfl) | (apply qbz; first | assumption | decide | exact List.cons_ne_nil _ _)) | ((conv => arg 2; arg 1; simp (disch:=first | omega | assumption) only [bn_some,qbf,Option.map_some,qar,qan,qaf,Nat.add_zero,qbo,lay_int,ofA3,un_not,Bool.not_true,qa0,qay,qam,qbp,ldc0,sto_sh0,stoc0,sparts_str3,ext0,extS,eg_0,eg_S,st_appr,st_ldo,st_sto,r172,hwd,r146,canon3,heat,lay3]); (with_reducible first | apply qab | apply qaa (b:=false))))
    conv => arg 2; simp (disch:=first | omega | assumption) only [qac,qaj,qbs,shut_sl,shut_agg,qax,qau,own_full,qae,qah,qap,qby,qav,qas,canon_nil,qad,qag,qam,stL_take,hkp]
    exact ⟨_,rfl,rfl⟩
  · rw [if_neg h46] at h
    by_cases h36 : wordAt l i = [36]
    · rw [if_pos h36] at h
      rw [h36] at hwd
      rw [if_pos (by simp [h36]),h36] at heat
      have hnm:=s205 (A ++ [.cells [.int .i64 0,.str [],.sl .full 0 []]]) k l (i + 1) o (lenL hk) (by omega) (by have:=qbw (l:=l) (i:=i) (by rw [h36]; simp); omega) hwi1
      simp only [Int.natCast_add,Int.natCast_one] at hnm
      cases hn : isName (wordAt l (i + 1))
      · rw [hn] at h hnm
        rw [if_neg (by simp)] at hnm
        cases h
        (repeat' first | (with_reducible first | (apply qbu; intro hkk hke) | (apply tot_jk; · assumption) | apply qab | apply qa4 | apply qbn | apply qat | apply tp_pan | apply qai | apply qaw (b:=false) | apply qaa (b:=true) | apply qaa (b:=false) | apply qaq | apply qao | apply tot_ifft | (apply tot_seql_t; first | assumption | with_reducible rfl) | (apply qbz; first | assumption | decide | exact List.cons_ne_nil _ _)) | ((conv => arg 2; arg 1; simp (disch:=first | omega | assumption) only [qbf,leaves_pan,qan,qaf,Nat.add_zero,qbo,un_not,Bool.not_true,qay,qam,sparts_str3,ext0,extS,eg_0,eg_S,st_appr,r172,hwd,r146,canon3,heat,r205,hnm]); (with_reducible first | apply qab | apply qaa (b:=false))))
        conv => arg 2; simp (disch:=first | omega | assumption) only [qac,qaj,shut_agg,shut_iface,qax,qau,qbh,qah,qby,canon_iface,qav,qas,qbe,qag,qam,stL_take,hkp]
        exact ⟨_,rfl,_,_,rfl⟩
      · rw [hn] at h hnm
        rw [if_pos rfl] at hnm
        cases h
        (repeat' first | (with_reducible first | (apply qbu; intro hkk hke) | (apply tot_jk; · assumption) | apply qab | apply tp_bnbn | apply qa4 | apply qbn | apply qat | apply qai | apply qaw (b:=false) | apply qaa (b:=true) | apply qaa (b:=false) | apply qaq | apply qao | apply tot_ifft | (apply tot_seql_t; first | assumption | with_reducible rfl) | (apply qbz; first | assumption | decide | exact List.cons_ne_nil _ _)) | ((conv => arg 2; arg 1; simp (disch:=first | omega | assumption) only [bn_some,qbf,Option.map_some,qar,qan,qaf,Nat.add_zero,qbo,ofA3,un_not,Bool.not_true,qa0,qay,qam,qbp,ldc0,sto_sh0,stoc0,sparts_str3,ext0,extS,eg_0,eg_S,st_appr,st_ldo,st_sto,r172,hwd,r146,canon3,heat,lay3,r205,hnm,hla,hlb]); (with_reducible first | apply qab | apply qaa (b:=false))))
        conv => arg 2; simp (disch:=first | omega | assumption) only [qac,qaj,qbs,shut_sl,shut_agg,qax,qau,own_full,qae,qah,qap,qby,qav,qas,canon_nil,qad,qag,qam,stL_take,hkp]
        exact ⟨_,rfl,rfl⟩
    · rw [if_neg h36] at h
      by_cases h40 : wordAt l i = [40]
      · rw [if_pos h40] at h
        rw [h40] at hwd
        have hlt:=qbw (l:=l) (i:=i) (by rw [h40]; simp)
        rw [if_pos (by simp [h40]),h40] at heat
        by_cases h50 : 50 ≤ o
        · rw [if_pos h50] at h
          cases h
          have hfa:=s114 (A ++ [.cells [.int .i64 0,.str [],.sl .full 0 []]]) k l i o 91 (lenL hk)
          (repeat' first | (with_reducible first | (apply qbu; intro hkk hke) | apply qab | apply qa4 | apply qbn | apply qat | apply tp_pan | apply qai | apply qaw (b:=true) | apply qaa (b:=true) | apply qaq | apply tot_iftt | (apply tot_geq_t; omega) | (apply tot_seql_t; first | assumption | with_reducible rfl)) | ((conv => arg 2; arg 1; simp (disch:=first | omega | assumption) only [qbm,qan,qaf,Nat.zero_add,Nat.add_zero,qbo,qah,qay,qam,stL_load,st_appr,r172,hwd,psl2,r114,hfa]); (with_reducible first | apply qab | apply qaa (b:=true))))
          conv => arg 2; simp (disch:=first | omega | assumption) only [qac,qaj,shut_agg,shut_iface,qax,qau,qbh,qah,qby,canon_iface,qav,qas,qbe,qag,qam,stL_take,hkp]
          exact ⟨_,rfl,_,_,rfl⟩
        · rw [if_neg h50] at h
          have heat1:=s146 (A ++ [.cells [.int .i64 0,.str [],.sl .full 0 []]]) k l (i + 1) o [[41]] (lenL hk) (by omega) (by omega) hwi1 (by simp)
          simp only [Int.natCast_add,Int.natCast_one] at heat1
          by_cases h41 : wordAt l (i + 1) = [41]
          · rw [if_pos h41] at h
            cases h
            rw [if_pos (by simp [h41]),h41] at heat1
            (repeat' first | (with_reducible first | (apply qbu; intro hkk hke) | (apply tot_jk; · assumption) | apply qab | apply tp_bnbn | apply qa4 | apply qbn | apply qat | apply qai | apply qaw (b:=true) | apply qaa (b:=true) | apply qaa (b:=false) | apply qaq | apply qao | apply tot_iftt | (apply tot_geq_f; omega) | (apply tot_seql_t; first | assumption | with_reducible rfl) | (apply qbz; first | assumption | decide | exact List.cons_ne_nil _ _)) | ((conv => arg 2; arg 1; simp (disch:=first | omega | assumption) only [bn_some,qbm,Option.map_some,qar,qan,qaf,Nat.zero_add,Nat.add_zero,qbo,lay_int,ofA3,un_not,Bool.not_true,qa0,qay,qam,qbp,ldc0,sto_sh0,stoc0,sparts_str,sparts_str3,ext0,extS,eg_0,eg_S,stL_load,st_appr,st_ldo,st_sto,r172,hwd,psl2,r146,canon1,canon3,heat,heat1,lay3]); (with_reducible first | apply qab | apply qaa (b:=false))))
            conv => arg 2; simp (disch:=first | omega | assumption) only [qac,qaj,qbs,shut_sl,shut_agg,qax,qau,own_full,qae,qah,qap,qby,qav,qas,canon_nil,qad,qag,qam,stL_take,hkp]
            exact ⟨_,rfl,rfl⟩
          · rw [if_neg h41] at h
            rw [if_neg (by simp [h41])] at heat1
            (repeat' first | (with_reducible first | (apply qbu; intro hkk hke) | (apply tot_jk; · assumption) | apply qab | apply qa4 | apply qbn | apply qat | apply qaw (b:=true) | apply qaa (b:=true) | apply qaa (b:=false) | apply qao | apply tot_iftt | (apply tot_geq_f; omega) | (apply tot_seql_t; first | assumption | with_reducible rfl) | (apply qbz; first | assumption | decide | exact List.cons_ne_nil _ _)) | ((conv => arg 2; arg 1; simp (disch:=first | omega | assumption) only [qbm,qa7,qa2,qan,qaf,Nat.zero_add,Nat.add_zero,qbo,un_not,Bool.not_true,qa0,qay,qam,sparts_str,sparts_str3,ext0,extS,eg_0,stL_load,stL_store,st_appr,r172,hwd,psl2,pss2,r146,canon1,canon3,heat,heat1]); (with_reducible first | apply qab | apply qaa (b:=false))))
            conv => arg 2; arg 1; simp (disch:=first | omega | assumption) only [qay,eg_0,r113]
            rcases PR.bind_some h with ⟨⟨a,c⟩,h1,rfl⟩ | ⟨r,j,h1,h2⟩
            · have hq:=ih.alt (A ++ [.cells [.int .i64 0,.str [],.sl .full 0 []]]) k (o + 1) (i + 1) _ (lenL hk) (by omega) (by omega) h1
              refine tot_bn hq fun z hz => ?_
              obtain ⟨i',o',rfl⟩:=hz
              (repeat' first | (with_reducible first | apply tp_pan | apply qai) | ((conv => arg 2; arg 1; simp only [leaves_pan,eg_0,eg_S]); (with_reducible apply qab)))
              conv => arg 2; simp (disch:=first | omega | assumption) only [qac,qaj,shut_agg,shut_iface,qax,qau,qbh,qah,qby,canon_iface,qav,qas,qbe,qag,qam,stL_take,hkp]
              exact ⟨_,rfl,i',o',rfl⟩
            · have hq:=ih.alt (A ++ [.cells [.int .i64 0,.str [],.sl .full 0 []]]) k (o + 1) (i + 1) _ (lenL hk) (by omega) (by omega) h1
              refine tot_bn hq fun z hz => ?_
              have g : P.Good l.length (i + 1) r j:=(facts hw n).alt (o + 1) (i + 1) _ (by omega) h1
              have g1:=g.lt; have g2:=g.size; have g3:=g.le
              cases (show z = _ from hz)
              have hco : (o : Int) + 1 - 1 = o:=by omega
              simp only [Int.natCast_add,Int.natCast_one]
              have heat2:=s146 (A ++ [.cells [.int .i64 0,.str [],.sl .full 0 []],.cells [.int .i64 r.op,.str r.nm,encL 3 (r.ks.map encRx)]]) k l j o [[41]] (lenL hk) (by omega) (by omega) (wordAt_short hw j) (by simp)
              by_cases hj : wordAt l j = [41]
              · rw [if_pos hj] at h2
                cases h2
                rw [if_pos (by simp [hj]),hj] at heat2
                (repeat' first | (with_reducible first | (apply qbu; intro hkk hke) | (apply tot_jk; · assumption) | apply qa4 | apply qat | apply qai | apply qaa (b:=false) | apply qao) | ((conv => arg 2; arg 1; simp (disch:=first | omega | assumption) only [bn_some,Option.map_some,binO_sub,qa2,qar,qan,qaf,Nat.zero_add,Nat.add_zero,qbo,ofA3,List.length_append,List.length_cons,List.length_nil,un_not,Bool.not_true,qa0,qay,qam,app_nil',qbx,ld_sh,qbp,ldc0,ldcS,sto_sh,sto_sh0,stoc0,stocS,sparts_str,ext0,extS,eg_0,eg_S,stL_load,stL_store,stL_appr,st_ldo,st_sto,rx_lay,rx_fold,psl2,pss2,hco,r146,canon1,heat2]); (with_reducible apply qab)))
                conv => arg 2; simp (disch:=first | omega | assumption) only [qac,qae,qad,qag,qam,stL_take,hkp,rx_shut,rx_canon]
                exact ⟨_,rfl,rfl⟩
              · rw [if_neg hj] at h2
                cases h2
                rw [if_neg (by simp [hj])] at heat2
                have hfa:=s114 (A ++ [.cells [.int .i64 0,.str [],.sl .full 0 []],.cells [.int .i64 r.op,.str r.nm,encL 3 (r.ks.map encRx)]]) k l j o 90 (lenL hk)
                (repeat' first | (with_reducible first | (apply qbu; intro hkk hke) | apply qa4 | apply qat | apply tp_pan | apply qai | apply qaa (b:=true) | apply qaq) | ((conv => arg 2; arg 1; simp (disch:=first | omega | assumption) only [binO_sub,qa2,leaves_pan,qan,qaf,Nat.zero_add,Nat.add_zero,qbo,List.length_append,List.length_cons,List.length_nil,un_not,Bool.not_false,qa0,qah,qay,qam,app_nil',qbx,sto_sh,stoc0,stocS,sparts_str,ext0,extS,eg_0,eg_S,stL_load,stL_store,stL_appr,st_sto,rx_lay,psl2,pss2,hco,r146,canon1,heat2,r114,hfa]); (with_reducible apply qab)))
                conv => arg 2; simp (disch:=first | omega | assumption) only [qac,qaj,shut_agg,shut_iface,qax,qau,qbh,qah,qby,canon_iface,qav,qas,qbe,qag,qam,stL_take,hkp]
                exact ⟨_,rfl,_,_,rfl⟩
      · rw [if_neg h40] at h
        rw [if_neg (by simp [h40,h36,h46])] at heat
        have hnm:=s205 (A ++ [.cells [.int .i64 0,.str [],.sl .full 0 []]]) k l i o (lenL hk) (by omega) (by omega) hwi
        cases hn : isName (wordAt l i)
        · rw [hn] at h hnm
          rw [if_neg (by simp)] at hnm
          cases h
          (repeat' first | (with_reducible first | (apply qbu; intro hkk hke) | (apply tot_jk; · assumption) | apply qab | apply qa4 | apply qbn | apply qat | apply tp_pan | apply qai | apply qaw (b:=false) | apply qaa (b:=true) | apply qaa (b:=false) | apply qaq | apply qao | apply tot_ifft | (apply qbz; first | assumption | decide | exact List.cons_ne_nil _ _)) | ((conv => arg 2; arg 1; simp (disch:=first | omega | assumption) only [qbf,leaves_pan,qan,qaf,Nat.add_zero,qbo,un_not,Bool.not_false,qay,qam,sparts_str3,ext0,extS,eg_0,eg_S,st_appr,r172,hwd,r146,canon3,heat,r205,hnm]); (with_reducible first | apply qab | apply qaa (b:=false))))
          conv => arg 2; simp (disch:=first | omega | assumption) only [qac,qaj,shut_agg,shut_iface,qax,qau,qbh,qah,qby,canon_iface,qav,qas,qbe,qag,qam,stL_take,hkp]
          exact ⟨_,rfl,_,_,rfl⟩
        · rw [hn] at h hnm
          rw [if_pos rfl] at hnm
          cases h
          (repeat' first | (with_reducible first | (apply qbu; intro hkk hke) | (apply tot_jk; · assumption) | apply qab | apply tp_bnbn | apply qa4 | apply qbn | apply qat | apply qai | apply qaw (b:=false) | apply qaa (b:=true) | apply qaa (b:=false) | apply qaq | apply qao | apply tot_ifft | (apply qbz; first | assumption | decide | exact List.cons_ne_nil _ _)) | ((conv => arg 2; arg 1; simp (disch:=first | omega | assumption) only [bn_some,qbf,Option.map_some,qar,qan,qaf,Nat.add_zero,qbo,ofA3,un_not,Bool.not_false,qa0,qay,qam,qbp,ldc0,sto_sh0,stoc0,sparts_str3,ext0,extS,eg_0,eg_S,st_appr,st_ldo,st_sto,r172,hwd,r146,canon3,heat,lay3,r205,hnm,hla,hlb]); (with_reducible first | apply qab | apply qaa (b:=false))))
          conv => arg 2; simp (disch:=first | omega | assumption) only [qac,qaj,qbs,shut_sl,shut_agg,qax,qau,own_full,qae,qah,qap,qby,qav,qas,canon_nil,qad,qag,qam,stL_take,hkp]
          exact ⟨_,rfl,rfl⟩
theorem progSpec : ∀ n,ProgSpec l n
  | 0 => ⟨fun _ _ _ _ _ _ _ _ h => by simp [pAlt] at h,fun _ _ _ _ _ _ _ _ _ _ _ _ _ _ _ _ _ _ _ h => by simp [pAlts] at h,fun _ _ _ _ _ _ _ _ h => by simp [pSeq] at h,fun _ _ _ _ _ _ _ _ _ _ _ _ _ _ _ _ _ _ _ h => by simp [pSeqs] at h,
      fun _ _ _ _ _ _ _ _ h => by simp [pRep] at h,fun _ _ _ _ _ _ _ _ h => by simp [pAtom] at h⟩
  | n + 1 => by
    have ih:=progSpec n
    exact ⟨fun A k o i x h1 h2 h3 h4 => progAlt_step hl hw ih A k o i x h1 h2 h3 h4,
      fun A k o i i0 acc b x r0 r1 r2 h1 h2 h3 h4 h5 h6 h7 h8 h9 => progAlts_step hl hw ih A k o i i0 acc b x r0 r1 r2 h1 h2 h3 h4 h5 h6 h7 h8 h9,
      fun A k o i x h1 h2 h3 h4 => progSeq_step hl hw ih A k o i x h1 h2 h3 h4,
      fun A k o i i0 acc b x r0 r1 r2 h1 h2 h3 h4 h5 h6 h7 h8 h9 => progSeqs_step hl hw ih A k o i i0 acc b x r0 r1 r2 h1 h2 h3 h4 h5 h6 h7 h8 h9,
      fun A k o i x h1 h2 h3 h4 => progRep_step hl hw ih A k o i x h1 h2 h3 h4,
      fun A k o i x h1 h2 h3 h4 => progAtom_step hl hw ih A k o i x h1 h2 h3 h4⟩
end Go.Vm.Rx
