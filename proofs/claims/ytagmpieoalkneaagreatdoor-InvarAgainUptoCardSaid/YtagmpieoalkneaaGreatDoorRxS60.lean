/- RxS29, RxS30, RxS31, RxS32, RxS33, RxS34, RxS60 in one text. -/
import Derived.Test.YtagmpieoalkneaaGreatDoorRxS28
import Derived.Test.YtagmpieoalkneaaGreatDoorRxI8
set_option linter.all false
/- What the program reads of words. -/
namespace Go.Vm.Rx
open Go Go.Proofs P
set_option maxRecDepth 10000
set_option maxHeartbeats 2000000
theorem Kept3 {A L M : St} {s0 s1 s2 t0 t1 t2 : Slot} (h0 : ∀ n,t0.shut n = t0) (h1 : ∀ n,t1.shut n = t1) (h2 : ∀ n,t2.shut n = t2) :
    Kept (A ++ (s0 :: s1 :: s2 :: L)) (A ++ (t0 :: t1 :: t2 :: (L ++ M))) ↔ True:=by
  refine iff_true_intro (Kept_tail (by simp) fun i hi => ?_)
  match i,hi with
  | 0,_ => exact .inr ⟨_,rfl,h0 _⟩
  | 1,_ => exact .inr ⟨_,rfl,h1 _⟩
  | 2,_ => exact .inr ⟨_,rfl,h2 _⟩
  | i + 3,hi =>
    left
    simp only [List.length_cons] at hi
    simp only [List.getElem?_cons_succ]
    rw [List.getElem?_append_left (by omega)]
theorem take3 {A L M : St} {s0 s1 s2 t0 t1 t2 : Slot} : (A ++ (t0 :: t1 :: t2 :: (L ++ M))).take (A ++ (s0 :: s1 :: s2 :: L)).length = A ++ (t0 :: t1 :: t2 :: L):=by
  have e : A ++ (t0 :: t1 :: t2 :: (L ++ M)) = (A ++ (t0 :: t1 :: t2 :: L)) ++ M:=by simp
  rw [e,List.take_append_of_le_length (by simp),List.take_of_length_le (by simp)]
theorem take3' {A L M : St} {t0 t1 t2 : Slot} : (A ++ (t0 :: t1 :: t2 :: (L ++ M))).take (A.length + (L.length + 1 + 1 + 1)) = A ++ (t0 :: t1 :: t2 :: L):=by
  have:=take3 (A:=A) (L:=L) (M:=M) (s0:=.dead) (s1:=.dead) (s2:=.dead) (t0:=t0) (t1:=t1) (t2:=t2)
  simpa [List.length_append,Nat.add_assoc] using this
theorem dc112p (A L : St) (o0 o1 o2 a1 a2 : D) (x y : Int) : Dcall Tryz.prog rxA (.fn (.func 112) [] [.ref A.length 0,.ref (A.length + 1) 0,.ref (A.length + 2) 0]) [] (some (.iface 164 (.agg [.int .i64 x,.int .i64 y])))
      (A ++ (.cells [o0,a1,a2] :: .cells [o1] :: .cells [o2] :: L)) =
    some (none,A ++ (.cells [.int .i64 0,.str [],.sl .full 0 []] :: .cells [.int .i64 x] :: .cells [.int .i64 y] :: L)):=by
  rw [rd112p]
  unfold d112p nd112p; dsimp only
  have has : ∀ z d,assertV z (.iface 164 d) 164 true = some (.tup [d,.bool true]):=fun _ _ => rfl
  have hk:=fun M => Kept3 (A:=A) (L:=L) (M:=M) (s0:=.cells [o0,a1,a2]) (s1:=.cells [o1]) (s2:=.cells [o2]) (t0:=.cells [.int .i64 0,.str [],.sl .full 0 []]) (t1:=.cells [.int .i64 x]) (t2:=.cells [.int .i64 y]) (fun n => by simp) (fun n => by simp) (fun n => by simp)
  refine qbc ?_
  (repeat' first | (with_reducible first | apply qa4 | apply tp_gs0 | apply tp_gs1 | apply tp_gk | apply qaa (b:=false) | apply qao) | ((conv => arg 2; arg 1; simp (disch:=first | omega | assumption) only [qaf,qa5,ofCellsS,Nat.zero_add,Nat.add_zero,qbo,lay_int,List.length_append,List.length_cons,un_not,Bool.not_true,qa0,app_one,qbx,ld_sh,qbp,ldc0,ldcS,sto_sh,sto_sh0,stoc0,stocS,ext0,extS,lay_ii,sameAd_ref,get_sh,List.getElem?_cons_succ,ifc_nil,has,hk,lay3]); (with_reducible first | apply qab | apply qbi)))
  conv => arg 2; simp (disch:=first | omega | assumption) only [List.length_append,List.length_cons,take3']
  exact qak rfl
theorem dc112n (a b c : D) (S : St) : Dcall Tryz.prog rxA (.fn (.func 112) [] [a,b,c]) [] none S = some (none,S):=by
  rw [rd112n]
  unfold d112n nd112n; dsimp only
  have hn : negIf false true = .bool true:=rfl
  refine qbc ?_
  skip
  ((try conv => arg 2; simp only [bn_some,qac,qal,qaf,List.take_length,Nat.zero_add,Nat.add_zero,qbo,mL_gk,sto_sh0,stoc0]); refine qak ?_)
  rfl
theorem st_ps (A : St) (a b c : Slot) (cs cs' : List D) : A ++ [a,b,c,.cells cs] = st (A ++ [a,b,c,.cells cs']) (A.length + 3) cs:=by simp [st]
theorem st_ps2 (A L : St) (a b c : Slot) (cs cs' : List D) : st (A ++ a :: b :: c :: .cells cs' :: L) (A.length + 3) cs = A ++ a :: b :: c :: .cells cs :: L:=by simp [st]
theorem s67 (l : List Word) (hl : l.length ≤ 1100000) (hw : ∀ w,w ∈ l → w.t.length ≤ 100000000) (A : St) : f67 (encL 3 (l.map encW)) A = some (.ret (readD (readP l)),A):=by
  obtain ⟨x,hx⟩:=(ends hw (8 * l.length + 4)).alt 0 0 (by omega) (by omega)
  have hfc:=(facts hw (8 * l.length + 4)).alt 0 0 x (by omega) hx
  unfold readP
  rw [hx]
  unfold f67 n67; dsimp only
  have h2a : ∀ (y : D) (e : D),e.cell? = some e → layCells true 2 0 [y,.int .i64 0,.int .i64 0] (.agg [e,.int .i64 0]) = some [e,.int .i64 0,.int .i64 0]:=fun y e he => by
    have ha : allCells [e,.int .i64 0] = true:=by
      show (e.cell?.isSome && (true && true)) = true
      rw [he]; rfl
    simp [layCells,D.cellsT,D.agg?,ha,splice]
  have hbx : ∀ (e : D) (B : St),e.cell? = some e → boxO true (.agg [e,.int .i64 0,.int .i64 0]) B = some (.ref B.length 0,B ++ [.cells [e,.int .i64 0,.int .i64 0]]):=fun e B he => by
    have ha : allCells [e,.int .i64 0,.int .i64 0] = true:=by
      show (e.cell?.isSome && (true && (true && true))) = true
      rw [he]; rfl
    simp [boxO,D.cellsT,D.agg?,ha,allocD]
  have hlw : layCells false 1 0 [.sl .full 0 [],.int .i64 0] (encL 3 (l.map encW)) = some [encL 3 (l.map encW),.int .i64 0]:=rfl
  have h2b:=fun y => h2a y (encL 3 (l.map encW)) rfl
  have hbb:=fun B => hbx (encL 3 (l.map encW)) B rfl
  refine qbc ?_
  (repeat' first | (with_reducible first | apply qab | apply tp_bnbn | apply qa4) | ((conv => arg 2; arg 1; simp (disch:=first | omega | assumption) only [Nat.zero_add,qbo,List.length_append,List.length_cons,List.length_nil,app_one,app_nil',qbx,Nat.reduceAdd,hlw,h2b,hbb]); (with_reducible apply qab)))
  rw [st_ps A _ _ _ _ (psC l 0 0)]
  conv => arg 2; arg 1; simp (disch:=first | omega | assumption) only [qay,r113]
  have hq:=(progSpec hl hw (8 * l.length + 4)).alt (A ++ [.cells [.int .i64 0,.str [],.sl .full 0 []],.cells [.int .i64 0],.cells [.int .i64 0],.cells (psC l 0 0)]) (A.length + 3) 0 0 x (by simp) (by omega) (by omega) hx
  refine tot_bn hq fun z hz => ?_
  rcases x with ⟨a,c⟩ | ⟨r,j⟩
  · obtain ⟨i',o',rfl⟩:=hz
    simp only [st_ps2]
    (repeat' first | (with_reducible first | apply tp_pan | apply qai) | ((conv => arg 2; arg 1; simp (disch:=first | omega | assumption) only [bn_some,Option.map_some,Option.bind_some,qar,leaves_cons,qa5,ofA3,ld_sh,qbp,ldc0,ldcS,dc112p]); (with_reducible apply qab)))
    ((try conv => arg 2; simp (disch:=first | omega | assumption) only [qac,qaj,qbs,shut_sl,shut_agg,qbv,qax,qau,own_full,qaz,qae,qah,qap,qby,qbq,qav,qas,canon_nil,qad,qag,List.take_left']); refine qak ?_)
    rfl
  · cases (show z = _ from hz)
    have g : P.Good l.length 0 r j:=hfc
    have g1:=g.size; have g2:=g.le
    have hch:=s37 r (Rx.Nm.ok r g.nm (by omega))
    have hz0 : ((0:Nat):Int) = 0:=rfl
    have hfa:=fun a b c L => s114 (A ++ a :: b :: c :: .cells (psC l 0 0) :: L) (A.length + 3) l j 0 90 (by simp)
    simp only [st_ps2] at hfa ⊢
    by_cases hj : j < l.length
    · simp only [if_pos hj]
      (repeat' first | (with_reducible first | (apply qbu; intro hkk hke) | apply qa4 | apply qat | apply tp_pan | apply qai | apply qaa (b:=true) | apply qaq | (apply qa1; omega)) | ((conv => arg 2; arg 1; simp (disch:=first | omega | assumption) only [bn_some,Option.map_some,Option.bind_some,qar,leaves_cons,qan,qaf,qa5,Nat.zero_add,Nat.add_zero,qbo,ofA3,List.length_append,List.length_cons,List.length_nil,qa0,qah,qay,qbl,app_one,app_nil',qbx,ld_sh,qbp,ldc0,ldcS,sto_sh,stoc0,stocS,List.length_map,Nat.reduceAdd,hz0,rx_lay,psl1,r114,hfa,dc112p]); (with_reducible apply qab)))
      ((try conv => arg 2; simp (disch:=first | omega | assumption) only [qac,qaj,qbs,shut_sl,shut_agg,qbv,qax,qau,own_full,qaz,qae,qah,qap,qby,qbq,qav,qas,canon_nil,qad,qag,List.take_left']); refine qak ?_)
      rfl
    · simp only [if_neg hj]
      by_cases hcz : r.check = 0
      · rw [if_pos hcz]
        rw [hcz] at hch
        (repeat' first | (with_reducible first | (apply qbu; intro hkk hke) | (apply tot_jk; · assumption) | apply qa4 | apply qat | apply qai | apply qaa (b:=false) | apply qao | (apply qba; omega) | (apply tot_neq_t; omega)) | ((conv => arg 2; arg 1; simp (disch:=first | omega | assumption) only [bn_some,Option.map_some,Option.bind_some,qar,leaves_cons,qan,qaf,qa5,Nat.zero_add,Nat.add_zero,qbo,lay_int,ofA3,List.length_append,List.length_cons,List.length_nil,qa0,qbl,app_one,app_nil',qbx,ld_sh,qbp,ldc0,ldcS,sto_sh,sto_sh0,stoc0,stocS,List.length_map,Nat.reduceAdd,eg_0,eg_S,hz0,rx_lay,rx_fold,psl1,r37,rx_canon,hch,dc112n]); (with_reducible apply qab)))
        ((try conv => arg 2; simp (disch:=first | omega | assumption) only [qac,qaj,qbv,qax,qau,qaz,qae,qah,qbq,qav,qas,qad,qag,List.take_left',rx_shut,rx_canon]); refine qak ?_)
        rfl
      · rw [if_neg hcz]
        (repeat' first | (with_reducible first | (apply qbu; intro hkk hke) | (apply tot_jk; · assumption) | apply qa4 | apply qat | apply qai | apply qaa (b:=true) | apply qaa (b:=false) | apply qaq | apply qao | (apply qba; omega) | (apply tot_neq_f; omega)) | ((conv => arg 2; arg 1; simp (disch:=first | omega | assumption) only [bn_some,Option.map_some,Option.bind_some,qar,leaves_cons,qan,qaf,qa5,Nat.zero_add,Nat.add_zero,qbo,lay_int,ofA3,List.length_append,List.length_cons,List.length_nil,qa0,qbl,app_one,app_nil',qbx,ld_sh,qbp,ldc0,ldcS,sto_sh,sto_sh0,stoc0,stocS,List.length_map,Nat.reduceAdd,eg_0,eg_S,hz0,lay3,rx_lay,rx_fold,psl1,r37,rx_canon,hch,dc112n]); (with_reducible apply qab)))
        ((try conv => arg 2; simp (disch:=first | omega | assumption) only [qac,qaj,qbs,shut_sl,shut_agg,qbv,qax,qau,own_full,qaz,qae,qah,qap,qby,qbq,qav,qas,canon_nil,qad,qag,List.take_left']); refine qak ?_)
        rfl
end Go.Vm.Rx

/- Rows as one row: slices.Concat. -/
namespace Go.Vm.Rx
open Go Go.Proofs P
set_option maxRecDepth 10000
set_option maxHeartbeats 2000000
theorem acc_leave {b : Option Nat} {A : St} {n : Nat} {ds : List D} (h : PlainL ds) : leaveD RetK.own A (.ret (accD b A.length n ds)) (accA b A ds) = some (.ret (accD b A.length n ds),accA b A ds):=by
  cases b with
  | none =>
    have hk : Kept A (A ++ [.tok ds.length]):=(accA_Kept none A ds).2 trivial
    simp [leaveD,accD,accA,guardP,hk,h.shut]
  | some e =>
    have hk : Kept A A:=(accA_Kept (some 0) A ds).2 trivial
    simp [leaveD,accD,accA,guardP,hk,Res.shut,h.shut,Own.shut]
end Go.Vm.Rx

/- What the program parses a text as. -/
namespace Go.Vm.Rx
open Go Go.Proofs P
set_option maxRecDepth 10000
set_option maxHeartbeats 4000000
end Go.Vm.Rx

/- Which expressions are the same: both texts' answers. -/
namespace Go.Vm.Rx
open Go Go.Proofs P
set_option maxRecDepth 10000
set_option maxHeartbeats 2000000
theorem s41_loop (A : St) (a b : Rx) (ha : a.Ok) (hb : b.Ok) (hn : a.ks.length = b.ks.length) (hk : ∀ k,k ∈ a.ks → ∀ k',k' ∈ b.ks → ∀ A,f41 (encRx k) (encRx k') A = some (.ret (.bool (k.same k')),A)) :
    ∀ (t t' : List Rx) (i : Nat),a.ks.drop i = t → b.ks.drop i = t' →
    LP Tryz.prog rxA 41 [0,1,0,1,1] [A] (Env.mk (sp [(2,.ref A.length 0),(0,.ref (A.length + 1) 0),(1,.int .i64 (i : Nat))] 40) []) (A ++ [.cells [.int .i64 a.op,.str a.nm,encL 3 (a.ks.map encRx)],.cells [.int .i64 b.op,.str b.nm,encL 3 (b.ks.map encRx)]]) = some (.ret (.bool (Rx.sames t t')),A):=by
  intro t
  have hl:=ha.len
  have hs0 : (D.ref A.length 0).shut (A.length + 2) = .ref A.length 0:=shut_ref _ (by omega)
  have hs1 : (D.ref (A.length + 1) 0).shut (A.length + 2) = .ref (A.length + 1) 0:=shut_ref _ (by omega)
  induction t with
  | nil =>
    intro t' i ht ht'
    have h1:=drop_len ht
    have : t' = []:=by rw [← ht']; exact List.drop_eq_nil_of_le (by omega)
    subst this
    refine qbc (qbj (q41_0 ..) ?_)
    unfold n41_0; dsimp only
    (repeat' first | (with_reducible first | apply qa4 | apply qai | apply qaa (b:=false) | apply qao) | ((conv => arg 2; arg 1; simp only [Option.map_some,qar,qaf,qa5,ofCellsS,Nat.zero_add,qa6,qbd,qbb,qbl,qbp,ldc0,List.length_map]); (with_reducible first | apply qab | (apply qba; omega))))
    ((try conv => arg 2; simp (disch:=first | omega | assumption) only [qac,qa9,qaz,qae,qa3,qad,qag,List.take_left']); refine qak ?_)
    unfold Rx.sames; rfl
  | cons k t ih =>
    intro t' i ht ht'
    have h1:=drop_lt ht
    cases t' with
    | nil => have:=drop_len ht'; omega
    | cons k' t' =>
      have hx:=idx_drop (f:=encRx) ht 3 true .i64
      have hx':=idx_drop (f:=encRx) ht' 3 true .i64
      have hkk:=hk k (drop_mem ht) k' (drop_mem ht')
      have hih:=ih t' (i + 1) (qbt ht) (qbt ht')
      refine qbc (qbj (q41_0 ..) ?_)
      unfold n41_0; dsimp only
      unfold Rx.sames
      cases hq : k.same k'
      · rw [hq] at hkk
        (repeat' first | (with_reducible first | apply qa4 | apply qat | apply qai | apply qaa (b:=true) | apply qaq) | ((conv => arg 2; arg 1; simp (disch:=first | omega | assumption) only [Option.map_some,qar,qaf,qbg,qa5,ofCellsS,Nat.zero_add,ofA3,un_not,Bool.not_false,qa6,qbd,qbb,qa0,qbl,ld_sh,qbp,ldc0,ldcS,List.length_map,hx,hx',rx_cell,rx_fold,rx_canon,r41,hkk]); (with_reducible first | apply qab | (apply qa1; omega))))
        ((try conv => arg 2; simp (disch:=first | omega | assumption) only [qac,qa9,qaz,qae,qa3,qad,qag,List.take_left']); refine qak ?_)
        rfl
      · rw [hq] at hkk
        (repeat' first | (with_reducible first | apply qa4 | apply qat | apply tp_gk | apply qaa (b:=true) | apply qaa (b:=false) | apply qaq | apply qao) | ((conv => arg 2; arg 1; simp (disch:=first | omega | assumption) only [qa7,qa2,qal,qaf,qbg,qa5,ofCellsS,Nat.zero_add,ofA3,un_not,Bool.not_true,qa6,qbd,qbb,qa0,qbl,ld_sh,qbp,ldc0,ldcS,List.length_map,hx,hx',rx_cell,rx_fold,rx_canon,r41,hkk]); (with_reducible first | apply qab | apply qbi | (apply qa1; omega))))
        conv => arg 2; simp (disch:=first | omega | assumption) only [qaj,qbr,List.map_nil,Nat.zero_add,List.length_append,List.length_cons,List.length_nil,qa6,qbd,qbb,Nat.reduceAdd,take_n2,hs0,hs1]
        refine qa8 ?_
        simpa using hih
theorem s41 : ∀ (a : Rx) (ha : a.Ok) (b : Rx) (hb : b.Ok) (A : St),f41 (encRx a) (encRx b) A = some (.ret (.bool (a.same b)),A):=by
  refine Rx.ind ?_
  intro a ih ha b hb A
  have hla:=ha.len; have hlb:=hb.len
  have hlm : ∀ r : Rx,((r.ks.map encRx).length : Int) = (r.ks.length : Int):=fun r => by simp
  unfold f41 n41; dsimp only
  rw [Rx.same_eq]
  refine qbc ?_
  by_cases h1 : a.op = b.op
  · by_cases h2 : a.nm = b.nm
    · by_cases h3 : a.ks.length = b.ks.length
      · have:=s41_loop A a b ha hb h3 (fun k hk k' hk' A => ih k hk (ha.kid hk) k' (hb.kid hk') A) a.ks b.ks 0 rfl rfl
        (repeat' first | (with_reducible first | apply qa4 | apply qbn | apply qaw (b:=false) | apply qaa (b:=false) | apply qao | apply tot_ifff | (apply tot_neq_t; omega) | (apply tot_sneq_t; first | assumption | with_reducible rfl)) | ((conv => arg 2; arg 1; simp (disch:=first | omega | assumption) only [qbf,qaf,qa5,ofCellsS,Nat.zero_add,Nat.add_zero,List.length_append,List.length_cons,List.length_nil,qbl,app_one,app_nil',qbx,ld_sh,qbp,ldc0,ldcS,List.length_map,rx_box,h1,h2,h3]); (with_reducible first | apply qab | apply qaw (b:=false) | apply qaa (b:=false))))
        (refine qa8 ?_; (conv => lhs; simp only []); rw [decide_eq_true h1,decide_eq_true h2]; simpa [h1,h2,h3] using this)
      · rw [Rx.sames_len h3]
        (repeat' first | (with_reducible first | apply qa4 | apply qbn | apply qai | apply qaw (b:=false) | apply qaa (b:=false) | apply qaq | apply tot_ifff | (apply tot_neq_t; omega) | (apply tot_neq_f; omega) | (apply tot_sneq_t; first | assumption | with_reducible rfl)) | ((conv => arg 2; arg 1; simp (disch:=first | omega | assumption) only [qbf,qaf,qa5,ofCellsS,Nat.zero_add,Nat.add_zero,List.length_append,List.length_cons,List.length_nil,qbl,app_one,app_nil',qbx,ld_sh,qbp,ldc0,ldcS,List.length_map,rx_box,h1,h2]); (with_reducible first | apply qab | apply qaw (b:=false) | apply qaa (b:=true) | apply qaa (b:=false))))
        ((try conv => arg 2; simp (disch:=first | omega | assumption) only [qac,qa9,qaz,qae,qa3,qad,qag,List.take_left']); refine qak ?_)
        simp
    · rw [decide_eq_false h2]
      (repeat' first | (with_reducible first | apply qab | apply qa4 | apply qbn | apply qai | apply qaw (b:=false) | apply qaa (b:=false) | apply qaq | apply tot_iftf | apply tot_ifff | (apply tot_neq_t; omega) | (apply tot_sneq_f; first | assumption | decide | exact List.cons_ne_nil _ _)) | ((conv => arg 2; arg 1; simp (disch:=first | omega | assumption) only [qbm,qbf,qaf,qa5,ofCellsS,Nat.zero_add,Nat.add_zero,List.length_append,List.length_cons,List.length_nil,app_one,app_nil',qbx,ld_sh,qbp,ldc0,ldcS,rx_box,h1]); (with_reducible first | apply qab | apply qaw (b:=true) | apply qaa (b:=true))))
      ((try conv => arg 2; simp (disch:=first | omega | assumption) only [qac,qa9,qaz,qae,qa3,qad,qag,List.take_left']); refine qak ?_)
      simp
  · rw [decide_eq_false h1]
    (repeat' first | (with_reducible first | apply qab | apply qa4 | apply qbn | apply qai | apply qaw (b:=true) | apply qaa (b:=true) | apply qaq | apply tot_iftf | (apply tot_neq_f; omega)) | ((conv => arg 2; arg 1; simp (disch:=first | omega | assumption) only [qbm,qaf,qa5,Nat.zero_add,Nat.add_zero,List.length_append,List.length_cons,List.length_nil,app_one,app_nil',qbx,ld_sh,qbp,ldc0,ldcS,rx_box]); (with_reducible first | apply qab | apply qaw (b:=true) | apply qaa (b:=true))))
    ((try conv => arg 2; simp (disch:=first | omega | assumption) only [qac,qa9,qaz,qae,qa3,qad,qag,List.take_left']); refine qak ?_)
    simp
end Go.Vm.Rx

/- Which expressions are the same: the program's answer. -/
namespace Go.Vm.Rx
open Go Go.Proofs P
set_option maxRecDepth 10000
set_option maxHeartbeats 2000000
end Go.Vm.Rx

/- Laws of path expressions: what texts and words are read as,which expressions are the same. -/
namespace Go.Vm.Rx
open Go Go.Proofs P
set_option maxRecDepth 10000
set_option maxHeartbeats 4000000
theorem no_ok : Rx.no.Ok:=⟨by simp,by simp,trivial⟩
theorem readP_ok {l : List Word} (hl : l.length ≤ 1100000) (hw : ∀ w,w ∈ l → w.t.length ≤ 100000000) : (readP l).1.Ok:=by
  unfold readP
  obtain ⟨x,hx⟩:=(ends hw (8 * l.length + 4)).alt 0 0 (by omega) (by omega)
  have hfc:=(facts hw (8 * l.length + 4)).alt 0 0 x (by omega) hx
  rw [hx]
  rcases x with ⟨a,c⟩ | ⟨r,j⟩
  · exact no_ok
  · have g : P.Good l.length 0 r j:=hfc
    have g1:=g.size; have g2:=g.le
    dsimp only
    split
    · exact no_ok
    · split
      · exact Rx.Nm.ok r g.nm (by omega)
      · exact no_ok
end Go.Vm.Rx

/- Cubes,numbers,signs: what both texts say of them. -/
namespace Go.Vm.Rx
open Go Go.Proofs P
set_option maxRecDepth 10000
set_option maxHeartbeats 2000000
theorem s119_loop (s : Str) (hs : s.length < 4611686018427387904) (A : St) : ∀ (t : Str) (i : Nat),s.drop i = t → i ≤ s.length →
    LP Tryz.prog rxA 119 [0,1,0,1,1] [A] (Env.mk (sp [(0,.str s),(0,.str [48,49,120]),(13,.int .i64 (s.length : Nat)),(0,.int .i64 (i : Nat))] 9) []) A = some (.ret (.bool (t.all cubeB)),A):=by
  intro t
  induction t with
  | nil =>
    intro i ht _
    have hl:=drop_len ht
    refine qbc (qbj (q119_0 ..) ?_)
    unfold n119_0; dsimp only
    (repeat' first | (with_reducible first | apply qai | apply qaa (b:=false) | apply qao) | ((conv => arg 2; arg 1; simp only [Option.map_some,qar,qa6,qbd,qbb]); (with_reducible first | apply qab | (apply qba; omega))))
    all_goals (((try conv => arg 2; simp only [qac,qa9,qal,qae,List.take_length,qa3,qad,qag]); refine qak ?_); rfl)
  | cons c t ih =>
    intro i ht _
    have hl:=drop_lt ht
    refine qbc (qbj (q119_0 ..) ?_)
    unfold n119_0; dsimp only
    have hx:=Vm.idxStr ht .i64
    have hc : cubeB c = decide (0 ≤ Lib.indexByte [48,49,120] c):=by
      rw [← idx_contains]
      unfold cubeB
      simp only [List.contains_cons,List.contains_nil,Bool.or_false]
      rw [Bool.eq_iff_iff]
      simp [byte_eq]
    (repeat' first | (with_reducible first | apply qat | apply tp_gk | apply qai | apply qaa (b:=true) | apply qaa (b:=false) | apply qaq | apply qao | (apply tot_lss; all_goals intro hsp)) | ((conv => arg 2; arg 1; simp (disch:=first | omega | assumption) only [Option.map_some,qa7,qa2,qal,qar,qa6,qbd,qbb,qah,qap,r139,s139,hx]); (with_reducible first | apply qab | apply qbi | (apply qa1; omega))))
    all_goals first
      | (((try conv => arg 2; simp only [qac,qa9,qal,qae,List.take_length,qa3,qad,qag]); refine qak ?_); simp only [List.all_cons,hc]; rw [decide_eq_false (by omega)]; simp; done)
      | (refine qa8 ?_; (conv => lhs; simp only [qaj,qbr,qbs,List.take_length,List.map_nil,qa6,qbd,qbb]); have:=ih (i + 1) (qbt ht) (by omega); simp only [List.all_cons,hc]; rw [decide_eq_true (by omega),Bool.true_and]; exact this)
theorem isCube_long {s : Str} (h : 128 < s.length) : isCube s = false:=by
  unfold isCube
  rw [decide_eq_false (by omega : ¬ s.length ≤ 128)]; simp
theorem isCube_all {s : Str} (h : 1 ≤ s.length) (h2 : s.length ≤ 128) : isCube s = s.all cubeB:=by
  unfold isCube
  rw [decide_eq_true h2,decide_eq_true (by intro e; simp [e] at h)]; simp
theorem s119 (s : Str) (hs : s.length < 4611686018427387904) (A : St) : f119 (.str s) (.str [48,49,120]) A = some (.ret (.bool (isCube s)),A):=by
  unfold f119 n119; dsimp only
  have:=s119_loop s hs A s 0 rfl (by omega)
  refine qbc ?_
  by_cases h1 : 1 ≤ s.length
  · by_cases h2 : s.length ≤ 128
    · (repeat' first | (with_reducible first | apply qab | apply qa4 | apply qbn | apply qaw (b:=false) | apply qaa (b:=false) | apply qao | apply tot_ifff | (apply qba; omega) | (apply tot_gtr_f; omega)) | ((conv => arg 2; arg 1; simp only [qbf,lenStr_str]); (with_reducible first | apply qab | apply qaa (b:=false))))
      (refine qa8 ?_; (conv => lhs; simp only []); rw [isCube_all h1 h2]; exact this)
    · (repeat' first | (with_reducible first | apply qab | apply qa4 | apply qbn | apply qai | apply qaw (b:=false) | apply qaa (b:=false) | apply qaq | apply tot_ifff | (apply qba; omega) | (apply tot_gtr_t; omega)) | ((conv => arg 2; arg 1; simp only [qbf,lenStr_str]); (with_reducible first | apply qab | apply qaa (b:=true))))
      ((try conv => arg 2; simp only [qac,qa9,qal,qae,List.take_length,qa3,qad,qag]); refine qak ?_)
      rw [isCube_long (by omega)]
  · have : s = []:=by cases s with | nil => rfl | cons => simp at h1
    subst this
    (repeat' first | (with_reducible first | apply qab | apply qa4 | apply qbn | apply qai | apply qaw (b:=true) | apply qaa (b:=true) | apply qaq | apply tot_iftf | (apply qa1; omega)) | ((conv => arg 2; arg 1; simp only [qbm,lenStr_str,List.length_nil]); (with_reducible first | apply qab | apply qaa (b:=true))))
    ((try conv => arg 2; simp only [qac,qa9,qal,qae,List.take_length,qa3,qad,qag]); refine qak ?_)
    rfl
theorem s80 (s : Str) (hs : s.length < 4611686018427387904) (A : St) : f80 (encL 1 [.str s]) A = some (if isCube s = true then (.ret (.tup []),A) else (.pan (.iface 179 (.agg [.int .i64 10])),A)):=by
  have hof:=fun A => s119 s hs A
  have hla : layCells false 1 0 [D.int .i64 0] (D.int .i64 10) = some [.int .i64 10]:=rfl
  have hix : indexAddrO 1 false (encL 1 [.str s]) (.int .i64 0) = some (.peek [.str s]):=rfl
  have hsh : ∀ n,(encL 1 [D.str s]).shut n = encL 1 [D.str s]:=fun n => by simp [encL]
  unfold f80 n80; dsimp only
  refine qbc ?_
  (repeat' first | ((conv => arg 2; arg 1; simp only [Nat.zero_add,List.length_cons,List.length_nil,qbl]); (with_reducible apply qab)))
  refine qbj (q80_0 ..) ?_
  unfold n80_0; dsimp only
  cases h : isCube s
  · rw [h] at hof
    (repeat' first | (with_reducible first | (apply qbu; intro hkk hke) | apply qab | apply tp_bnbn | apply qa4 | apply qat | apply qaa (b:=true) | apply qaq) | ((conv => arg 2; arg 1; simp (disch:=first | omega | assumption) only [qbg,qa5,un_not,Bool.not_false,qap,eg_0,eg_S,hix,r119,hof,hla]); (with_reducible first | apply qab | (apply qa1; omega))))
    ((try conv => arg 2; simp only [bn_some,qac,qal,qbh,leaves_pan,List.take_length,leaveM_mL,qbe,qag,eg_0,eg_S]); refine qak ?_)
    rfl
  · rw [h] at hof
    (repeat' first | (with_reducible first | (apply qbu; intro hkk hke) | (apply tot_jk; · assumption) | apply qa4 | apply qat | apply tp_gk | apply qaa (b:=true) | apply qaa (b:=false) | apply qaq | apply qao) | ((conv => arg 2; arg 1; simp (disch:=first | omega | assumption) only [qa7,qa2,qal,qbg,qa5,un_not,Bool.not_true,qap,Int.reduceAdd,eg_0,eg_S,hix,r119,hof]); (with_reducible first | apply qab | apply qbi | (apply qa1; omega))))
    refine qbj (q80_0 ..) ?_
    unfold n80_0; dsimp only
    (repeat' first | (with_reducible first | apply qaa (b:=false) | apply qao) | ((conv => arg 2; arg 1; simp (disch:=first | omega | assumption) only [qaj,qbr,List.map_nil,Nat.zero_add,List.length_cons,List.length_nil,qbl,eg_0,eg_S,hsh]); (with_reducible first | apply qab | (apply qba; omega))))
    refine qbj (q80_1 ..) ?_
    unfold n80_1; dsimp only
    (repeat' first | (with_reducible first | (apply qbu; intro hkk hke) | (apply tot_jk; · assumption) | apply qa4 | apply tp_gk | apply qaa (b:=true) | apply qaa (b:=false) | apply qaq | apply qao | (apply tot_neq_t; omega)) | ((conv => arg 2; arg 1; simp (disch:=first | omega | assumption) only [qa7,qa2,qaj,qbr,qal,lenStr_str,qbg,qa5,List.take_length,List.map_nil,Int.reduceAdd,eg_0,eg_S,hix,hsh]); (with_reducible first | apply qab | apply qbi | (apply qa1; omega))))
    refine qbj (q80_1 ..) ?_
    unfold n80_1; dsimp only
    (repeat' first | (with_reducible first | apply qai | apply qaa (b:=false) | apply qao) | ((conv => arg 2; arg 1; simp (disch:=first | omega | assumption) only [Option.map_some,qaj,qbr,qar,List.take_length,List.map_nil,eg_0,eg_S,hsh]); (with_reducible first | apply qab | (apply qba; omega))))
    ((try conv => arg 2; simp only [qac,qbv,qax,qal,qae,List.take_length,qbq,qav,qad,qag]); refine qak ?_)
    rfl
end Go.Vm.Rx
