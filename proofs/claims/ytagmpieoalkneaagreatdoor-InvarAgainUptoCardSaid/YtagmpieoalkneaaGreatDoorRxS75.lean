/- RxS74, RxS75 in one text. -/
import Derived.Test.YtagmpieoalkneaaGreatDoorRxS73
set_option linter.all false
/- The program's reader of texts of invariants. -/
namespace Go.Vm.Rx
open Go Go.Proofs P
set_option maxRecDepth 10000
set_option maxHeartbeats 4000000
theorem s8_loop (A : St) (rows : List (List Word)) (hrl : rows.length ≤ 1100001) (hw : ∀ r,r ∈ rows → LineOk r) :
    ∀ (t : List (List Word)) (i : Nat) (acc : List Iv),rows.drop i = t → i ≤ rows.length → acc.length ≤ 64 →
    LP Tryz.prog rxA 8 [0,1,0,1,1,1,1] [A] (Env.mk (sp [(2,.ref A.length 0),(0,.ref (A.length + 2) 0),(0,.ref (A.length + 3) 0),(0,.ref (A.length + 4) 0),(16,.tup []),(0,.fn (.func 24) [] [.ref A.length 0,.ref (A.length + 2) 0,.ref (A.length + 3) 0,.ref (A.length + 4) 0]),(0,encL 1 (rows.map encRow)),(0,.int .i64 (rows.length : Nat)),(0,.int .i64 (i : Nat))] 33) [(.fn (.func 24) [] [.ref A.length 0,.ref (A.length + 2) 0,.ref (A.length + 3) 0,.ref (A.length + 4) 0],[])])
      (A ++ [.cells [.sl (.own (A.length + 1) 0) 9 (acc.map encIv)],.tok acc.length,.cells [.int .i64 0],.cells [.int .i64 0],.cells [.int .i64 0]]) =
      some (.ret (ivD (rowsP acc t)),A):=by
  intro t
  have hps : ∀ (l : List Iv) n,D.shutL n (l.map encIv) = l.map encIv:=fun l=>PlainL.shut (plainIvs l)
  have hcn : ∀ (l : List Iv) o,(D.sl o 9 (l.map encIv)).canon = encL 9 (l.map encIv):=fun l o=>canon_sl (plainIvs l) _ _
  induction t with
  | nil =>
    intro i acc ht hil hac
    have h1:=drop_len ht
    refine qbc (qbj (q8_0 ..) ?_)
    unfold n8_0;dsimp only
    (repeat' first | (with_reducible first | apply qa4 | apply qai | apply qaa (b:=false) | apply qao) | ((conv=>arg 2;arg 1;simp (disch:=first | omega | assumption) only [bn_some,Option.map_some,Option.bind_some,qar,leaves_cons,qa5,lay_int,lay_sl,qa6,qbd,qbb,qa0,ld_sh,qbp,ldc0,ldcS,sto_sh,sto_sh0,stoc0,stocS,dc24n]);(with_reducible first | apply qab | (apply qba;omega))))
    ((try conv=>arg 2;simp (disch:=first | omega | assumption) only [qac,qaj,shut_sl,qbv,qax,qau,own_new,qaz,qae,qah,qbq,qav,qas,qad,qag,List.take_left',hps,hcn]);refine qak ?_)
    rfl
  | cons x t ih =>
    intro i acc ht hil hac
    have h1:=drop_lt ht
    have hx:=idx_drop (f:=encRow) ht 1 false .i64
    have hc : (encRow x).cellsT false = some [encRow x]:=rfl
    have hf : ofCells false [encRow x] 0 1 = some (encRow x):=rfl
    have he : encRow x = encL 3 (x.map encW):=rfl
    have hlx : LineOk x:=hw x (by rw [← List.take_append_drop i rows,ht];simp)
    have hla : layCells false 1 0 [D.sl .full 0 [],.int .i64 0] (encL 3 (x.map encW)) = some (ipC x 0):=rfl
    have hlb : layCells true 2 0 [D.sl .full 0 [],.int .i64 0] (.agg (ipC x 0)) = some (ipC x 0):=by simp [layCells,D.cellsT,D.agg?,allCells,ipC,D.cell?,encL,splice]
    have hbx : ∀ B,boxO true (.agg (ipC x 0)) B = some (.ref B.length 0,B ++ [.cells (ipC x 0)]):=fun B=>by
      simp [boxO,D.cellsT,D.agg?,allCells,ipC,D.cell?,encL,allocD]
    have hst6 : ∀ (cs cs' : List D) s0 s1 s2 s3 s4,st (A ++ [s0,s1,s2,s3,s4,.cells cs']) (A.length + 5) cs = A ++ [s0,s1,s2,s3,s4,.cells cs]:=fun cs cs' s0 s1 s2 s3 s4=>by simp [st]
    have hst7 : ∀ (cs cs' : List D) s0 s1 s2 s3 s4 s6,st (A ++ [s0,s1,s2,s3,s4,.cells cs',s6]) (A.length + 5) cs = A ++ [s0,s1,s2,s3,s4,.cells cs,s6]:=fun cs cs' s0 s1 s2 s3 s4 s6=>by simp [st]
    have hln:=s25 (A ++ [.cells [.sl (.own (A.length + 1) 0) 9 (acc.map encIv)],.tok acc.length,.cells [.int .i64 0],.cells [.int .i64 0],.cells [.int .i64 0],.cells (ipC x 0)]) (A.length + 5) x hlx (by simp)
    rw [hst6] at hln
    have hli:=fun v=>ivcS v [] [] (.sl .full 0 []) 0 0 0
    unfold ivX at hli
    have hsp:=fun v e=>ip_stop (A ++ [.cells [.sl (.own (A.length + 1) 0) 9 (acc.map encIv)],.tok acc.length,.cells [.int .i64 0],.cells [.int .i64 0],.cells [.int .i64 0],.cells (ipC x 0),.cells (ivC v)]) (A.length + 5) x hlx 0 (by simp) (by omega) e
    simp only [hst7,Int.natCast_zero] at hsp
    have hdp:=fun L l j e=>dc24p A L (.sl (.own (A.length + 1) 0) 9 (acc.map encIv)) (.int .i64 0) (.int .i64 0) (.int .i64 0) (.tok acc.length) l j e
    refine qbc (qbj (q8_0 ..) ?_)
    unfold n8_0;dsimp only
    (repeat' first | (with_reducible first | apply qab | apply tp_bnbn | apply qa4 | apply qaa (b:=true) | apply qaq) | ((conv=>arg 2;arg 1;simp (disch:=first | omega | assumption) only [qbg,qa5,Nat.zero_add,List.length_append,List.length_cons,List.length_nil,qa6,qbd,qbb,qa0,cell_encL,app_one,app_nil',qbx,Nat.reduceAdd,hx,he,hla,hlb,hbx]);(with_reducible first | apply qab | (apply qa1;omega))))
    conv=>arg 2;arg 1;simp (disch:=first | omega | assumption) only [qay,r25]
    refine tot_bn hln fun z hz=>?_
    unfold rowsP addP
    cases hp : lineP x with
    | error p =>
      obtain ⟨j,e⟩:=p
      rw [hp] at hz
      obtain ⟨i',rfl⟩:=hz
      rw [hst6]
      (repeat' first | (with_reducible first | apply tp_pan | apply qai) | ((conv=>arg 2;arg 1;simp (disch:=first | omega | assumption) only [bn_some,Option.map_some,Option.bind_some,qar,leaves_cons,qa5,qa6,qbd,qbb,ld_sh,qbp,ldc0,ldcS,hdp]);(with_reducible apply qab)))
      ((try conv=>arg 2;simp (disch:=first | omega | assumption) only [qac,qaj,shut_sl,qbv,qax,qau,own_full,qaz,qae,qah,qbq,qav,qas,canon_nil,qad,qag,List.take_left']);refine qak ?_)
      rfl
    | ok v =>
      rw [hp] at hz
      obtain ⟨j,rfl⟩:=hz
      rw [hst6]
      have hlv:=hli v
      dsimp only [Except.bind]
      have hkn : ∀ q,f26 (encL 9 (acc.map encIv)) (.fn (.func 27) [] [.ref (A.length + 6) 0]) (A ++ [.cells [.sl (.own (A.length + 1) 0) 9 (acc.map encIv)],.tok acc.length,.cells [.int .i64 0],.cells [.int .i64 0],.cells [.int .i64 0],.cells q,.cells (ivC v)]) = some (.ret (.bool (knownP acc v.nm)),A ++ [.cells [.sl (.own (A.length + 1) 0) 9 (acc.map encIv)],.tok acc.length,.cells [.int .i64 0],.cells [.int .i64 0],.cells [.int .i64 0],.cells q,.cells (ivC v)]):=fun q =>
        s26 v _ (A.length + 6) (by rw [get_sh];rfl) acc (by omega)
      have hfc : ∀ q,(D.fn (.func 27) [] [.ref q 0]).canon = .fn (.func 27) [] [.ref q 0]:=fun _=>rfl
      by_cases hk : knownP acc v.nm = true
      · rw [if_pos hk]
        simp only [hk] at hkn
        (repeat' first | (with_reducible first | (apply qbu;intro hkk hke) | apply qa4 | apply qat | apply tp_pan | apply qai | apply qaa (b:=true) | apply qaq) | ((conv=>arg 2;arg 1;simp (disch:=first | omega | assumption) only [bn_some,Option.map_some,Option.bind_some,qar,leaves_cons,qan,qaf,qa5,Nat.zero_add,Nat.add_zero,qbo,List.length_append,List.length_cons,List.length_nil,qa6,qbd,qbb,qa0,qah,qay,app_one,app_nil',qbx,ld_sh,qbp,ldc0,ldcS,sto_sh,stoc0,stocS,Nat.reduceAdd,ips1,hlv,hcn,hfc,r26,hkn,r28,hsp,hdp]);(with_reducible apply qab)))
        ((try conv=>arg 2;simp (disch:=first | omega | assumption) only [qac,qaj,shut_sl,qbv,qax,qau,own_full,qaz,qae,qah,qbq,qav,qas,canon_nil,qad,qag,List.take_left']);refine qak ?_)
        rfl
      · rw [if_neg hk]
        simp only [Bool.not_eq_true] at hk
        simp only [hk] at hkn
        by_cases h64 : 64 ≤ acc.length
        · rw [if_pos h64]
          (repeat' first | (with_reducible first | (apply qbu;intro hkk hke) | (apply tot_jk;· assumption) | apply qa4 | apply qat | apply tp_pan | apply qai | apply qaa (b:=true) | apply qaa (b:=false) | apply qaq | apply qao | (apply tot_geq_t;omega)) | ((conv=>arg 2;arg 1;simp (disch:=first | omega | assumption) only [bn_some,Option.map_some,Option.bind_some,qar,leaves_cons,qan,qaf,lenSl_sl,qa5,Nat.zero_add,Nat.add_zero,qbo,List.length_append,List.length_cons,List.length_nil,qa6,qbd,qbb,qa0,qah,qay,app_one,app_nil',qbx,ld_sh,qbp,ldc0,ldcS,sto_sh,stoc0,stocS,List.length_map,Nat.reduceAdd,eg_0,eg_S,ips1,hlv,hcn,hfc,r26,hkn,r28,hsp,hdp]);(with_reducible apply qab)))
          ((try conv=>arg 2;simp (disch:=first | omega | assumption) only [qac,qaj,shut_sl,qbv,qax,qau,own_full,qaz,qae,qah,qbq,qav,qas,canon_nil,qad,qag,List.take_left']);refine qak ?_)
          rfl
        · rw [if_neg h64]
          have hspt : sliceParts 9 true 0 [(0,encIv v)] = some [encIv v]:=by
            simp only [sliceParts,cellIv,Option.bind_some]
            rfl
          have hap : ∀ c0 c2 c3 c4 c5 c6,appendO 9 128 (.sl (.own (A.length + 1) 0) 9 (acc.map encIv)) (.sl .full 9 [encIv v]) (A ++ [c0,.tok acc.length,c2,c3,c4,c5,c6]) = some (.sl (.own (A.length + 1) 0) 9 ((acc ++ [v]).map encIv),A ++ [c0,.tok (acc.length + 1),c2,c3,c4,c5,c6]):=fun c0 c2 c3 c4 c5 c6=>by
            rw [append_own (new:=[encIv v]) (by simp [appendNew,esOk]) (by simp) (by simp [roomOk];omega) (by simp;omega)]
            simp
          have hlo : ∀ c0 : D,layCells false 1 0 [c0] (D.sl (.own (A.length + 1) 0) 9 ((acc ++ [v]).map encIv)) = some [D.sl (.own (A.length + 1) 0) 9 ((acc ++ [v]).map encIv)]:=fun _=>rfl
          have hkp:=fun (L M : St)=>Kept5 (A:=A) (L:=L) (M:=M) (s0:=.cells [.sl (.own (A.length + 1) 0) 9 (acc.map encIv)]) (s1:=.tok acc.length) (s2:=.cells [.int .i64 0]) (s3:=.cells [.int .i64 0]) (s4:=.cells [.int .i64 0])
            (t0:=.cells [.sl (.own (A.length + 1) 0) 9 ((acc ++ [v]).map encIv)]) (t1:=.tok (acc.length + 1)) (t2:=.cells [.int .i64 0]) (t3:=.cells [.int .i64 0]) (t4:=.cells [.int .i64 0]) (.inr (by simp only [cells_shut,qau,qax,shut_sl,hps];rw [own_own _ (by simp)])) (.inr rfl) (.inl rfl) (.inl rfl) (.inl rfl)
          have hkp0:=fun (M : St)=>hkp [] M
          simp only [List.nil_append] at hkp0
          have htk2 : ∀ t0 t1 t2 t3 t4 (M : St),(A ++ (t0 :: t1 :: t2 :: t3 :: t4 :: M)).take (A.length + 5) = A ++ [t0,t1,t2,t3,t4]:=fun t0 t1 t2 t3 t4 M=>by
            have:=take5 (A:=A) (L:=[]) (M:=M) (t0:=t0) (t1:=t1) (t2:=t2) (t3:=t3) (t4:=t4) (n:=A.length + 5) rfl
            simpa using this
          have hfs : (D.fn (.func 24) [] [.ref A.length 0,.ref (A.length + 2) 0,.ref (A.length + 3) 0,.ref (A.length + 4) 0]).shut (A.length + 5) = .fn (.func 24) [] [.ref A.length 0,.ref (A.length + 2) 0,.ref (A.length + 3) 0,.ref (A.length + 4) 0]:=by simp [D.shut,D.shutL]
          have hrs : ∀ n,(encL 1 (rows.map encRow)).shut n = encL 1 (rows.map encRow):=fun n=>(encL_plain (plainRows rows) 1).shut n
          have hnx:=ih (i + 1) (acc ++ [v]) (qbt ht) (by omega) (by simp;omega)
          simp only [List.length_append,List.length_cons,List.length_nil,Nat.zero_add] at hnx
          (repeat' first | (with_reducible first | (apply qbu;intro hkk hke) | (apply tot_jk;· assumption) | apply qa4 | apply qat | apply tp_gk | apply qaa (b:=false) | apply qao | (apply tot_geq_f;omega)) | ((conv=>arg 2;arg 1;simp (disch:=first | omega | assumption) only [qa7,qa2,qan,qaf,lenSl_sl,qa5,Nat.zero_add,Nat.add_zero,qbo,List.length_append,List.length_cons,List.length_nil,qa6,qbd,qbb,qa0,app_one,app_nil',qbx,ld_sh,qbp,ldc0,ldcS,sto_sh,sto_sh0,stoc0,stocS,List.length_map,Nat.reduceAdd,eg_0,eg_S,ips1,hlv,hcn,hfc,r26,hkn,ivcA,hspt,hap,hlo,hkp0]);(with_reducible first | apply qab | apply qbi)))
          refine qa8 ?_
          conv=>lhs;simp (disch:=first | omega | assumption) only [qaj,qbr,qbv,shut_ref,qax,List.map_nil,Nat.zero_add,List.length_append,List.length_cons,List.length_nil,qa6,qbd,qbb,Nat.reduceAdd,eg_0,eg_S,htk2,hrs,hfs,List.map_cons]
          exact hnx
theorem s8 (s : Str) (hs : s.length ≤ 1048576) (x : Except (Int × Int) (List (List Word))) (hx : textP s x) (hw : ∀ rows,x = .ok rows → rows.length ≤ 1100001 ∧ ∀ r,r ∈ rows → LineOk r) (A : St) : f8 (.str s) A = some (.ret (ivD (ivP x)),A):=by
  have hln:=fun A=>s23 s (by omega) x hx A
  have htok : ∀ A : St,tokO [(0,9)] (.ref A.length 0) (A ++ [.cells [.sl .full 0 []]]) = some (.ref A.length 0,A ++ [.cells [.sl (.own (A.length + 1) 0) 9 []],.tok 0]):=fun A=>by
    simp [tokO,tokD,tokCells,tokCell,show Nat.ble 1000000 9 = false from rfl]
  unfold f8 n8;dsimp only
  refine qbc ?_
  rcases x with ⟨p,c⟩ | rows
  · simp only [linesRes] at hln
    (repeat' first | (with_reducible first | apply qab | apply tp_bnbn | apply qa4 | apply qat | apply tp_gs0 | apply tp_gs1 | apply qai | apply qaa (b:=true) | apply qaq | (apply tot_neq_f;omega)) | ((conv=>arg 2;arg 1;simp (disch:=first | omega | assumption) only [qa5,Nat.zero_add,qbo,lay_int,lay_sl,List.length_append,List.length_cons,List.length_nil,sameAd_refl,qa0,qap,app_one,app_nil',qbx,ld_sh,qbp,ldc0,ldcS,sto_sh,sto_sh0,stoc0,stocS,ext0,extS,Nat.reduceAdd,sameAd_ref,get_sh,List.getElem?_cons_succ,htok,r23,hln]);(with_reducible first | apply qab | apply qbi)))
    ((try conv=>arg 2;simp (disch:=first | omega | assumption) only [qac,qaj,shut_sl,qbv,qax,qau,own_full,qaz,qae,qah,qbq,qav,qas,canon_nil,qad,qag,List.take_left']);refine qak ?_)
    rfl
  · obtain ⟨h1,h2⟩:=hw rows rfl
    simp only [linesRes,List.nil_append] at hln
    (repeat' first | (with_reducible first | apply qa4 | apply qat | apply qaa (b:=false) | apply qao | (apply tot_neq_t;omega)) | ((conv=>arg 2;arg 1;simp (disch:=first | omega | assumption) only [qa5,Nat.zero_add,qbo,lay_int,List.length_append,List.length_cons,List.length_nil,qa0,qap,qbl,app_one,app_nil',qbx,ld_sh,ldc0,ldcS,sto_sh,stoc0,stocS,List.length_map,ext0,extS,Nat.reduceAdd,htok,r23,hln]);(with_reducible apply qab)))
    (refine qa8 ?_;(conv=>lhs;simp only []);have:=s8_loop A rows h1 h2 rows 0 [] rfl (by omega) (by simp);exact this)
theorem s8_long (s : Str) (hs : ¬ s.length ≤ 1048576) (hs2 : s.length < 4611686018427387904) (A : St) : f8 (.str s) A = some (.ret (.tup [.sl .sh 0 [],.int .i64 0,.int .i64 0,.int .i64 2]),A):=by
  have hln:=fun A=>s23_long s hs hs2 A
  have htok : ∀ A : St,tokO [(0,9)] (.ref A.length 0) (A ++ [.cells [.sl .full 0 []]]) = some (.ref A.length 0,A ++ [.cells [.sl (.own (A.length + 1) 0) 9 []],.tok 0]):=fun A=>by
    simp [tokO,tokD,tokCells,tokCell,show Nat.ble 1000000 9 = false from rfl]
  unfold f8 n8;dsimp only
  refine qbc ?_
  (repeat' first | (with_reducible first | apply qab | apply tp_bnbn | apply qa4 | apply qat | apply tp_gs0 | apply tp_gs1 | apply qai | apply qaa (b:=true) | apply qaq | (apply tot_neq_f;omega)) | ((conv=>arg 2;arg 1;simp (disch:=first | omega | assumption) only [qa5,Nat.zero_add,qbo,lay_int,lay_sl,List.length_append,List.length_cons,List.length_nil,sameAd_refl,qa0,qap,app_one,app_nil',qbx,ld_sh,qbp,ldc0,ldcS,sto_sh,sto_sh0,stoc0,stocS,ext0,extS,Nat.reduceAdd,sameAd_ref,get_sh,List.getElem?_cons_succ,htok,r23,hln]);(with_reducible first | apply qab | apply qbi)))
  ((try conv=>arg 2;simp (disch:=first | omega | assumption) only [qac,qaj,shut_sl,qbv,qax,qau,own_full,qaz,qae,qah,qbq,qav,qas,canon_nil,qad,qag,List.take_left']);refine qak ?_)
  rfl
end Go.Vm.Rx

/- The law of what texts of invariants are parsed as. -/
namespace Go.Vm.Rx
open Go Go.Proofs P
set_option maxRecDepth 10000
set_option maxHeartbeats 4000000
def IvOk (v : Iv) : Prop:=v.path.Ok ∧ v.ing.length ≤ 100000000
theorem ex_bind {ε α β : Type} {x : Except ε α} {f : α → Except ε β} {b : β} (h : x.bind f = .ok b) : ∃ a,x = .ok a ∧ f a = .ok b:=by
  cases x with
  | error e=>cases h
  | ok a=>exact ⟨a,rfl,h⟩
theorem lineP_ok {l : List Word} (hl : LineOk l) {v : Iv} (h : lineP l = .ok v) : IvOk v:=by
  have hlen:=hl.len
  unfold lineP at h
  obtain ⟨i,h1,h⟩:=ex_bind h
  obtain ⟨x,h2,h⟩:=ex_bind h
  obtain ⟨i2,h3,h⟩:=ex_bind h
  obtain ⟨y,h4,h⟩:=ex_bind h
  obtain ⟨i3,h5,h⟩:=ex_bind h
  unfold tail1P at h
  obtain ⟨⟨ing,j⟩,h6,h⟩:=ex_bind h
  have hi3 : i3 ≤ l.length:=by
    unfold mustP at h5
    split at h5
    · rename_i hw
      cases h5
      exact qbw (by rw [hw];simp)
    · cases h5
  obtain ⟨hj,hil⟩:=ingP_le (l:=l) (l.length + 1 - i3) i3 [] ing j (by omega) hi3 (by simp) h6
  dsimp only at h
  unfold tail2P at h
  obtain ⟨i4,h7,h⟩:=ex_bind h
  obtain ⟨n,h8,h⟩:=ex_bind h
  unfold tail3P at h
  obtain ⟨i5,h9,h⟩:=ex_bind h
  obtain ⟨c,h10,h⟩:=ex_bind h
  obtain ⟨m,h11,h⟩:=ex_bind h
  unfold tail4P at h
  obtain ⟨i6,h12,h⟩:=ex_bind h
  obtain ⟨r,h13,h⟩:=ex_bind h
  cases h
  refine ⟨?_,by show ing.length ≤ _;omega⟩
  show r.Ok
  unfold pathP at h13
  split at h13
  · cases h13
    exact readP_ok (by simp only [List.length_drop];omega) fun w hm=>hl.short w (List.mem_of_mem_drop hm)
  · cases h13
theorem rows_ok {s : Str} (hs : s.length ≤ 1048576) {x : Except (Int × Int) (List (List Word))} (hx : textP s x) : ∀ rows,x = .ok rows → rows.length ≤ 1100001 ∧ ∀ r,r ∈ rows → LineOk r:=by
  rintro rows rfl
  obtain ⟨h1,h2,h3⟩:=textP_ok hx
  refine ⟨by omega,fun r hr=>⟨rowsOf_ne _ _ _ hx r hr, ?_,fun w hm=>?_⟩⟩
  · have : r.length ≤ rows.flatten.length:=by
      obtain ⟨a,b,rfl⟩:=List.append_of_mem hr
      simp only [List.flatten_append,List.flatten_cons,List.length_append]
      omega
    omega
  · obtain ⟨⟨g1,g2⟩,g3,g4,g5,g6⟩:=h3 w (List.mem_flatten.2 ⟨r,hr,hm⟩)
    exact ⟨⟨g1,by omega⟩,g3,by omega,by omega,g6⟩
section
variable (v : Iv)
theorem ivbx (A : St) : boxO true (encIv v) A = some (.ref A.length 0,A ++ [.cells (ivC v)]):=by simp [boxO,cellIv,allocD]
theorem ivc1 : ofCells false (ivC v) 1 1 = some (.str v.pk):=rfl
theorem ivc2 : ofCells false (ivC v) 2 1 = some (encL 1 (v.ing.map .str)):=rfl
theorem ivc3 : ofCells false (ivC v) 3 1 = some (.int .i64 v.hops):=rfl
theorem ivc4 : ofCells false (ivC v) 4 1 = some (.int .i64 v.cmp):=rfl
theorem ivc5 : ofCells false (ivC v) 5 1 = some (.int .i64 v.cnt):=rfl
theorem ivc6 : ofCells true (ivC v) 6 3 = some (encRx v.path):=by rw [← rx_fold];rfl
end
theorem s17 (v : Iv) (hv : IvOk v) (A : St) : f17 (encIv v) (encIv v) A = some (.ret (.bool true),A):=by
  have h1:=fun A=>s40 v.ing hv.2 A
  have h2:=fun A=>s41 _ hv.1 _ hv.1 A
  simp only [Rx.same_refl] at h2
  unfold f17 n17;dsimp only
  refine qbc ?_
  (repeat' first | (with_reducible first | apply qa4 | apply qbn | apply qat | apply qai | apply qaw (b:=true) | apply qaa (b:=true) | apply tot_iftt | (apply tot_eql_t;omega) | (apply tot_seql_t;first | assumption | with_reducible rfl)) | ((conv=>arg 2;arg 1;simp (disch:=first | omega | assumption) only [qbm,qaf,Nat.zero_add,Nat.add_zero,List.length_append,List.length_cons,List.length_nil,app_one,app_nil',qbx,ld_sh,qbp,ldc0,ldcS,ivbx,ivc0,ivc1,ivc2,ivc3,ivc4,ivc5,ivc6,str_canon,rx_canon,r40,h1,r41,h2]);(with_reducible first | apply qab | apply qaw (b:=true) | apply qaa (b:=true))))
  ((try conv=>arg 2;simp (disch:=first | omega | assumption) only [qbm,qac,qa9,qaz,qae,qa3,qad,qag,List.take_left']);refine qak ?_)
  rfl
theorem s10_loop (l : List Iv) (hl : l.length ≤ 64) (hv : ∀ v,v ∈ l → IvOk v) (A : St) : ∀ (t : List Iv) (i : Nat),l.drop i = t →
    LP Tryz.prog rxA 10 [0,1,0,1,1] [A] (Env.mk (sp [(0,encL 9 (l.map encIv)),(0,encL 9 (l.map encIv)),(3,.int .i64 (i : Nat))] 21) []) A = some (.ret (.bool true),A):=by
  intro t
  induction t with
  | nil =>
    intro i ht
    have h1:=drop_len ht
    refine qbc (qbj (q10_0 ..) ?_)
    unfold n10_0;dsimp only
    (repeat' first | (with_reducible first | apply qai | apply qaa (b:=false) | apply qao) | ((conv=>arg 2;arg 1;simp only [Option.map_some,qar,qa6,qbd,qbb,qbl,List.length_map]);(with_reducible first | apply qab | (apply qba;omega))))
    ((try conv=>arg 2;simp only [qac,qa9,qal,qae,List.take_length,qa3,qad,qag]);refine qak ?_)
    rfl
  | cons x t ih =>
    intro i ht
    have h1:=drop_lt ht
    have hx:=idx_drop (f:=encIv) ht 9 true .i64
    have hs:=fun A=>s17 x (hv x (drop_mem ht)) A
    have hcn : (encIv x).canon = encIv x:=(plainIv x).canon
    refine qbc (qbj (q10_0 ..) ?_)
    unfold n10_0;dsimp only
    (repeat' first | (with_reducible first | apply qat | apply tp_gk | apply qaa (b:=true) | apply qaa (b:=false) | apply qaq | apply qao) | ((conv=>arg 2;arg 1;simp (disch:=first | omega | assumption) only [qa7,qa2,qal,qbg,un_not,Bool.not_true,qa6,qbd,qbb,qa0,qbl,List.length_map,hx,cellIv,ivcA,r17,hcn,hs]);(with_reducible first | apply qab | apply qbi | (apply qa1;omega))))
    (refine qa8 ?_;(conv=>lhs;simp only [qaj,qbr,List.take_length,List.map_nil,qa6,qbb]);rw [ivs_shut];have:=ih (i + 1) (qbt ht);exact this)
theorem s10 (l : List Iv) (hl : l.length ≤ 64) (hv : ∀ v,v ∈ l → IvOk v) (A : St) : f10 (encL 9 (l.map encIv)) (encL 9 (l.map encIv)) A = some (.ret (.bool true),A):=by
  have:=s10_loop l hl hv A l 0 rfl
  unfold f10 n10;dsimp only
  refine qbc ?_
  (repeat' first | (with_reducible first | apply qaa (b:=false) | apply qao | (apply tot_neq_t;omega)) | ((conv=>arg 2;arg 1;simp only [qbl,List.length_map]);(with_reducible apply qab)))
  (refine qa8 ?_;(conv=>lhs;simp only []);exact this)
theorem awake_is (A : St) : Run Tryz.prog rxA 11 [] A = some (.ret (.bool true),A):=by
  rw [Run_ext _ _ (by decide) rfl];rfl
end Go.Vm.Rx
