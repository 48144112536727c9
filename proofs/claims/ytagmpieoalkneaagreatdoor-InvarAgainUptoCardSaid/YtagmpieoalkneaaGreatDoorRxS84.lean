/- RxS83, RxS84 in one text. -/
import Derived.Test.YtagmpieoalkneaaGreatDoorRxS82
import Derived.Test.YtagmpieoalkneaaGreatDoorRxS60
set_option linter.all false
/- The text of invariants: the program's text. -/
namespace Go.Vm.Rx
open Go Go.Proofs P
set_option maxRecDepth 10000
set_option maxHeartbeats 4000000
theorem s33 (v w : Iv) (B : St) (kv : Nat) (h : B[kv]? = some (.cells (ivC v))) : f33 (encIv w) (.ref kv 0) B = some (.ret (.bool (decide (w.nm = v.nm))),B):=by
  have hbx : boxO true (encIv w) B = some (.ref B.length 0,B ++ [.cells (ivC w)]):=by
    simp [boxO,cellIv,allocD]
  have hlt : kv < B.length:=(List.getElem?_eq_some_iff.1 h).1
  have hld : loadO false 1 (.ref kv 0) (B ++ [.cells (ivC w)]) = some (.str v.nm):=by rw [ld_old hlt,load_get h,ivc0]
  unfold f33 n33;dsimp only
  refine qbc ?_
  (repeat' first | (with_reducible first | apply qa4 | apply qai | (apply tot_seql;all_goals intro hsp)) | ((conv=>arg 2;arg 1;simp (disch:=first | omega | assumption) only [qaf,Nat.add_zero,qbp,ldc0,hbx,hld,ivc0]);(with_reducible apply qab)))
  all_goals (((try conv=>arg 2;simp (disch:=first | omega | assumption) only [qac,qa9,qaz,qae,qa3,qad,qag,List.take_left']);refine qak ?_);simp [*])
theorem pidx_loop (v : Iv) (B : St) (kv : Nat) (h : B[kv]? = some (.cells (ivC v))) (l : List Iv) (hl : l.length ≤ 100000000) : ∀ (t : List Iv) (i : Nat),l.drop i = t →
    Tot (fun r=>∃ n : Int,-1 ≤ n ∧ (0 ≤ n ↔ knownP t v.nm = true) ∧ r = (.ret (.int .i64 n),B)) (LP Tryz.prog rxA 68 [0,1,0,1] [B] (Env.mk (sp [(0,encL 9 (l.map encIv)),(0,.fn (.func 33) [] [.ref kv 0]),(5,.int .i64 (l.length : Nat)),(0,.int .i64 (i : Nat))] 10) []) B):=by
  have hlt : kv < B.length:=(List.getElem?_eq_some_iff.1 h).1
  have hfs : (D.fn (.func 33) [] [.ref kv 0]).shut B.length = .fn (.func 33) [] [.ref kv 0]:=by simp [D.shut,D.shutL,hlt]
  intro t
  induction t with
  | nil =>
    intro i ht
    have h1:=drop_len ht
    refine qbj (q68_0 ..) ?_
    unfold n68_0;dsimp only
    (repeat' first | (with_reducible first | apply qai | apply qaa (b:=false) | apply qao) | ((conv=>arg 2;arg 1;simp only [Option.map_some,qar,qa6,qbd,qbb]);(with_reducible first | apply qab | (apply qba;omega))))
    ((try conv=>arg 2;simp only [qac,qaj,qal,qae,List.take_length,qah,qad,qag]);refine qak ?_)
    exact ⟨-1,by omega,by simp [knownP],rfl⟩
  | cons x t ih =>
    intro i ht
    have h1:=drop_lt ht
    have hx:=idx_drop (f:=encIv) ht 9 true .i64
    have hcn : (encIv x).canon = encIv x:=(plainIv x).canon
    have hrc : (D.ref kv 0).canon = .ref kv 0:=rfl
    have hca : applyD (Run Tryz.prog rxA) (.fn (.func 33) [] [.ref kv 0]) [encIv x] B = some (.ret (.bool (decide (x.nm = v.nm))),B):=by
      rw [app_fn]
      show Run Tryz.prog rxA 33 [encIv x,.ref kv 0] B = _
      rw [r33,hcn,hrc]
      exact s33 v x B kv h
    refine qbj (q68_0 ..) ?_
    unfold n68_0;dsimp only
    by_cases he : x.nm = v.nm
    · rw [decide_eq_true he] at hca
      (repeat' first | (with_reducible first | apply qa4 | apply qat | apply qai | apply qaa (b:=true) | apply qaq) | ((conv=>arg 2;arg 1;simp (disch:=first | omega | assumption) only [Option.map_some,qar,qbg,qa6,qbd,qbb,qa0,hx,cellIv,ivcA,hca]);(with_reducible first | apply qab | (apply qa1;omega))))
      ((try conv=>arg 2;simp only [qac,qaj,qal,qae,List.take_length,qah,qad,qag]);refine qak ?_)
      exact ⟨(i : Int),by omega,by simp [knownP,he],rfl⟩
    · rw [decide_eq_false he] at hca
      have hih:=ih (i + 1) (qbt ht)
      have e : knownP (x :: t) v.nm = knownP t v.nm:=by simp [knownP,he]
      rw [← e] at hih
      (repeat' first | (with_reducible first | apply qa4 | apply qat | apply tp_gk | apply qaa (b:=true) | apply qaa (b:=false) | apply qaq | apply qao) | ((conv=>arg 2;arg 1;simp (disch:=first | omega | assumption) only [qa7,qa2,qal,qbg,qa6,qbd,qbb,qa0,hx,cellIv,ivcA,hca]);(with_reducible first | apply qab | apply qbi | (apply qa1;omega))))
      conv=>arg 2;simp (disch:=first | omega | assumption) only [qaj,qbr,List.take_length,List.map_nil,qa6,qbd,qbb,ivs_shut,hfs]
      exact hih
theorem pcontains (v : Iv) (B : St) (kv : Nat) (h : B[kv]? = some (.cells (ivC v))) (l : List Iv) (hl : l.length ≤ 100000000) :
    f26 (encL 9 (l.map encIv)) (.fn (.func 33) [] [.ref kv 0]) B = some (.ret (.bool (knownP l v.nm)),B):=by
  have hlo:=pidx_loop v B kv h l hl l 0 rfl
  have hfc : (D.fn (.func 33) [] [.ref kv 0]).canon = .fn (.func 33) [] [.ref kv 0]:=rfl
  unfold f26 n26;dsimp only
  refine qbc ?_
  conv=>arg 2;arg 1;simp (disch:=first | omega | assumption) only [r68,ivs_canon,hfc]
  have h2 : Tot (fun r=>∃ n : Int,-1 ≤ n ∧ (0 ≤ n ↔ knownP l v.nm = true) ∧ r = (.ret (.int .i64 n),B)) (f68 (encL 9 (l.map encIv)) (.fn (.func 33) [] [.ref kv 0]) B):=by
    unfold f68 n68;dsimp only
    (repeat' first | ((conv=>arg 2;arg 1;simp only [qbl,List.length_map]);(with_reducible apply qab)))
    conv=>arg 2;simp only []
    exact hlo
  refine tot_bn h2 fun z hz=>?_
  obtain ⟨n,hn,hk,rfl⟩:=hz
  cases hq : knownP l v.nm with
  | true =>
    have:=hk.2 hq
    (repeat' first | (with_reducible first | apply qat | apply qai | (apply tot_geq_t;omega)))
    ((try conv=>arg 2;simp only [qac,qa9,qal,qae,List.take_length,qa3,qad,qag]);refine qak ?_)
    rfl
  | false =>
    have : ¬ 0 ≤ n:=fun h=>by have:=hk.1 h;rw [hq] at this;cases this
    (repeat' first | (with_reducible first | apply qat | apply qai | (apply tot_geq_f;omega)))
    ((try conv=>arg 2;simp only [qac,qa9,qal,qae,List.take_length,qa3,qad,qag]);refine qak ?_)
    rfl
theorem s12_loop (l : List Iv) (hl : l.length ≤ 64) (hv : ∀ v,v ∈ l → IvWell v) (A : St) : ∀ (t : List Iv) (i : Nat) (b : Str),l.drop i = t → i ≤ l.length → b.length ≤ 1300000 * i →
    LP Tryz.prog rxA 12 [0,1,0,1,1,1] [A] (Env.mk (sp [(0,encL 9 (l.map encIv)),(4,byS A b),(7,encL 9 (l.map encIv)),(0,.int .i64 (l.length : Nat)),(0,.int .i64 (i : Nat))] 29) []) (A ++ [.tok b.length]) = some (.ret (printT (printL b (l.take i) t)),A):=by
  have hsh:=ivs_shut l 9
  intro t
  induction t with
  | nil =>
    intro i b ht hi hb
    have h1:=drop_len ht
    have hbl:=by_len A b
    have hcv:=by_conv A b
    unfold printL
    refine qbc (qbj (q12_0 ..) ?_)
    unfold n12_0;dsimp only
    by_cases h2 : 1048576 < b.length
    · rw [if_pos h2]
      (repeat' first | (with_reducible first | apply qai | apply qaa (b:=true) | apply qaa (b:=false) | apply qaq | apply qao | (apply tot_gtr_t;omega)) | ((conv=>arg 2;arg 1;simp (disch:=first | omega | assumption) only [Option.map_some,qar,qa6,qbd,qbb,hbl]);(with_reducible first | apply qab | (apply qba;omega))))
      ((try conv=>arg 2;simp (disch:=first | omega | assumption) only [qac,qaj,qbs,qbv,qax,qau,qaz,qae,qah,qap,qbq,qav,qas,qad,qag,List.take_left']);refine qak ?_)
      rfl
    · rw [if_neg h2]
      (repeat' first | (with_reducible first | apply qai | apply qaa (b:=false) | apply qao | (apply tot_gtr_f;omega)) | ((conv=>arg 2;arg 1;simp (disch:=first | omega | assumption) only [Option.map_some,qar,qa6,qbd,qbb,hbl,hcv]);(with_reducible first | apply qab | (apply qba;omega))))
      ((try conv=>arg 2;simp (disch:=first | omega | assumption) only [qac,qaj,qbs,qbv,qax,qau,qaz,qae,qah,qap,qbq,qav,qas,qad,qag,List.take_left']);refine qak ?_)
      rfl
  | cons v t ih =>
    intro i b ht hi hb
    have h1:=drop_lt ht
    have hx:=idx_drop (f:=encIv) ht 9 true .i64
    have hcn : (encIv v).canon = encIv v:=(plainIv v).canon
    have hvv:=hv v (drop_mem ht)
    have hln:=fun A=>s18 v hvv A
    have htl : (l.take i).length = i:=by simp;omega
    have hli:=ivcS v [] [] (.sl .full 0 []) 0 0 0
    unfold ivX at hli
    unfold lineD at hln
    unfold printL
    refine qbc (qbj (q12_0 ..) ?_)
    unfold n12_0;dsimp only
    by_cases h2 : ivForm v = 0
    · simp only [if_pos h2] at hln
      rw [if_neg (fun h=>h h2)]
      obtain ⟨y,hy,hyc⟩:=to_ivs l i (by omega)
      have hkn : f26 (encL 9 ((l.take i).map encIv)) (.fn (.func 33) [] [.ref (A.length + 1) 0]) (A ++ [.tok b.length,.cells (ivC v)]) = some (.ret (.bool (knownP (l.take i) v.nm)),A ++ [.tok b.length,.cells (ivC v)]) :=
        pcontains v _ (A.length + 1) (by rw [get_sh];rfl) (l.take i) (by omega)
      have hfc : ∀ q,(D.fn (.func 33) [] [.ref q 0]).canon = .fn (.func 33) [] [.ref q 0]:=fun _=>rfl
      cases hk : knownP (l.take i) v.nm
      · rw [if_neg (by decide)]
        rw [hk] at hkn
        have hsl:=line_len hvv h2
        have hadd : binO .add 3 true (.str (sayW (ivBody v))) (.str [10]) = some (.str (sayW (ivBody v) ++ [10])):=str_add (by simp only [List.length_cons,List.length_nil];omega)
        have ha1:=by_app A b (sayW (ivBody v) ++ [10]) (y:=.str (sayW (ivBody v) ++ [10])) [.cells (ivC v)] rfl (by simp only [List.length_append,List.length_cons,List.length_nil];omega)
        have hbs:=by_shut A (b ++ (sayW (ivBody v) ++ [10])) (n:=A.length + 1) (by omega)
        have hbt:=fun S=>by_tok A S (b ++ (sayW (ivBody v) ++ [10]))
        have hkp:=fun n=>by_kept A [.cells (ivC v)] b.length n
        have htk:=fun s=>by_take A [.cells (ivC v)] s
        have hih:=ih (i + 1) (b ++ (sayW (ivBody v) ++ [10])) (qbt ht) (by omega) (by simp only [List.length_append,List.length_cons,List.length_nil];omega)
        have htt : l.take (i + 1) = l.take i ++ [v]:=by
          rw [List.take_add_one]
          have:=List.drop_eq_getElem_cons h1
          rw [ht] at this
          rw [List.getElem?_eq_getElem h1,← (List.cons.inj this).1];rfl
        rw [htt] at hih
        rw [List.append_assoc]
        simp only [List.length_append,List.length_cons,List.length_nil,Nat.zero_add] at ha1 hih
        (repeat' first | (with_reducible first | apply qa4 | apply qat | apply tp_gk | apply qaa (b:=true) | apply qaa (b:=false) | apply qaq | apply qao | (apply tot_neq_t;omega)) | ((conv=>arg 2;arg 1;simp (disch:=first | omega | assumption) only [qa7,qa2,qbg,Nat.zero_add,qbo,List.length_append,List.length_cons,List.length_nil,qa6,qbd,qbb,qa0,app_one,app_nil',qbx,ld_sh,ldc0,ldcS,sto_sh,stoc0,stocS,ext0,extS,hx,cellIv,ivcA,hli,hcn,r18,hln,hy,hyc,hfc,r26,hkn,hadd,ha1,hbt,hkp]);(with_reducible first | apply qab | apply qbi | (apply qa1;omega))))
        refine qa8 ?_
        conv=>lhs;simp (disch:=first | omega | assumption) only [qaj,qbr,List.map_nil,Nat.zero_add,List.length_append,List.length_cons,List.length_nil,qa6,qbd,qbb,hsh,hbs,htk]
        exact hih
      · rw [if_pos rfl]
        rw [hk] at hkn
        (repeat' first | (with_reducible first | apply qa4 | apply qat | apply qai | apply qaa (b:=true) | apply qaa (b:=false) | apply qaq | apply qao | (apply tot_neq_t;omega)) | ((conv=>arg 2;arg 1;simp (disch:=first | omega | assumption) only [Option.map_some,qar,qbg,Nat.zero_add,qbo,List.length_append,List.length_cons,List.length_nil,qa6,qbd,qbb,qa0,app_one,app_nil',qbx,ld_sh,ldc0,ldcS,sto_sh,stoc0,stocS,ext0,extS,hx,cellIv,ivcA,hli,hcn,r18,hln,hy,hyc,hfc,r26,hkn]);(with_reducible first | apply qab | (apply qa1;omega))))
        ((try conv=>arg 2;simp (disch:=first | omega | assumption) only [qac,qaj,qbs,qbv,qax,qau,qaz,qae,qah,qap,qbq,qav,qas,qad,qag,List.take_left']);refine qak ?_)
        rw [htl];rfl
    · simp only [if_neg h2] at hln
      rw [if_pos h2]
      (repeat' first | (with_reducible first | apply qa4 | apply qat | apply qai | apply qaa (b:=true) | apply qaq | (apply tot_neq_f;omega)) | ((conv=>arg 2;arg 1;simp (disch:=first | omega | assumption) only [Option.map_some,qar,qbg,Nat.zero_add,qbo,List.length_append,List.length_cons,List.length_nil,qa6,qbd,qbb,qa0,app_one,app_nil',qbx,ld_sh,ldc0,ldcS,sto_sh,stoc0,stocS,ext0,extS,hx,cellIv,ivcA,hli,hcn,r18,hln]);(with_reducible first | apply qab | (apply qa1;omega))))
      ((try conv=>arg 2;simp (disch:=first | omega | assumption) only [qac,qaj,qbs,qbv,qax,qau,qaz,qae,qah,qap,qbq,qav,qas,qad,qag,List.take_left']);refine qak ?_)
      rw [htl];rfl
theorem s12 (l : List Iv) (hl : l.length ≤ 100000000) (hv : ∀ v,v ∈ l → IvWell v) (A : St) : f12 (encL 9 (l.map encIv)) A = some (.ret (printT (printP l)),A):=by
  unfold f12 n12 printP;dsimp only
  refine qbc ?_
  by_cases h : 64 < l.length
  · rw [if_pos h]
    (repeat' first | (with_reducible first | apply qai | apply qaa (b:=true) | apply qaq | (apply tot_gtr_t;omega)) | ((conv=>arg 2;arg 1;simp only [qbl,List.length_map]);(with_reducible apply qab)))
    ((try conv=>arg 2;simp only [qac,qaj,qbs,qbv,qax,qau,qal,qae,List.take_length,qah,qap,qbq,qav,qas,qad,qag]);refine qak ?_)
    rfl
  · rw [if_neg h]
    have hlo:=s12_loop l (by omega) hv A l 0 [] rfl (by omega) (by simp)
    have htk:=fun A=>tok_nil 0 1 0 A (by omega)
    (repeat' first | (with_reducible first | apply qaa (b:=false) | apply qao | (apply tot_gtr_f;omega)) | ((conv=>arg 2;arg 1;simp (disch:=first | omega | assumption) only [qbl,List.length_map,htk]);(with_reducible apply qab)))
    (refine qa8 ?_;(conv=>lhs;simp only []);exact hlo)
end Go.Vm.Rx

/- Which invariants are the same: both texts;the law of prints. -/
namespace Go.Vm.Rx
open Go Go.Proofs P
set_option maxRecDepth 10000
set_option maxHeartbeats 4000000
end Go.Vm.Rx
