/- RxS67, RxS68, RxS73 in one text. -/
import Derived.Test.YtagmpieoalkneaaGreatDoorRxS66
import Derived.Test.YtagmpieoalkneaaGreatDoorRxS72
set_option linter.all false
/- The reference's reader of a line: all of it. -/
namespace Go.Vm.Rx
open Go Go.Proofs P
set_option maxRecDepth 10000
set_option maxHeartbeats 4000000
end Go.Vm.Rx

/- The reference's reader of texts of invariants. -/
namespace Go.Vm.Rx
open Go Go.Proofs P
set_option maxRecDepth 10000
set_option maxHeartbeats 4000000
theorem ivc0 (v : Iv) : ofCells false (ivC v) 0 1 = some (.str v.nm):=rfl
theorem ivcA (v : Iv) : ofCells true (ivC v) 0 9 = some (encIv v):=rfl
theorem ivcS (v : Iv) (nm pk : Str) (ig : D) (h c n : Int) : layCells true 9 0 (ivX nm pk ig h c n) (encIv v) = some (ivC v):=by
  simp only [layCells,cellIv,Option.bind_some]
  rfl
theorem ivs_canon (l : List Iv) (n : Nat) : (encL n (l.map encIv)).canon = encL n (l.map encIv):=(encL_plain (plainIvs l) n).canon
theorem ivs_shut (l : List Iv) (n m : Nat) : (encL n (l.map encIv)).shut m = encL n (l.map encIv):=(encL_plain (plainIvs l) n).shut m
def ivD : Except (Int × Int × Int) (List Iv) → D
  | .ok l => .tup [encL 9 (l.map encIv),.int .i64 0,.int .i64 0,.int .i64 0]
  | .error (a,b,e) => .tup [.sl .sh 0 [],.int .i64 a,.int .i64 b,.int .i64 e]
def ivP : Except (Int × Int) (List (List Word)) → Except (Int × Int × Int) (List Iv)
  | .error (a,b) => .error (a,b,30)
  | .ok rows => rowsP [] rows
end Go.Vm.Rx

/- The program's reader of texts of invariants: is a name there,what is caught. -/
namespace Go.Vm.Rx
open Go Go.Proofs P
set_option maxRecDepth 10000
set_option maxHeartbeats 4000000
theorem Kept5 {A L M : St} {s0 s1 s2 s3 s4 t0 t1 t2 t3 t4 : Slot} (h0 : t0 = s0 ∨ t0.shut (A ++ (s0 :: s1 :: s2 :: s3 :: s4 :: L)).length = t0) (h1 : t1 = s1 ∨ t1.shut (A ++ (s0 :: s1 :: s2 :: s3 :: s4 :: L)).length = t1) (h2 : t2 = s2 ∨ t2.shut (A ++ (s0 :: s1 :: s2 :: s3 :: s4 :: L)).length = t2) (h3 : t3 = s3 ∨ t3.shut (A ++ (s0 :: s1 :: s2 :: s3 :: s4 :: L)).length = t3) (h4 : t4 = s4 ∨ t4.shut (A ++ (s0 :: s1 :: s2 :: s3 :: s4 :: L)).length = t4) :
    Kept (A ++ (s0 :: s1 :: s2 :: s3 :: s4 :: L)) (A ++ (t0 :: t1 :: t2 :: t3 :: t4 :: (L ++ M))) ↔ True:=by
  refine iff_true_intro (Kept_tail (by simp) fun i hi => ?_)
  have g : ∀ {s t : Slot},(t = s ∨ t.shut (A ++ (s0 :: s1 :: s2 :: s3 :: s4 :: L)).length = t) → some t = some s ∨ ∃ x,some t = some x ∧ x.shut (A ++ (s0 :: s1 :: s2 :: s3 :: s4 :: L)).length = x:=by
    rintro s t (h | h)
    · exact .inl (by rw [h])
    · exact .inr ⟨_,rfl,h⟩
  match i,hi with
  | 0,_ => exact g h0
  | 1,_ => exact g h1
  | 2,_ => exact g h2
  | 3,_ => exact g h3
  | 4,_ => exact g h4
  | i + 5,hi =>
    left
    simp only [List.length_cons] at hi
    simp only [List.getElem?_cons_succ]
    rw [List.getElem?_append_left (by omega)]
theorem take5 {A L M : St} {t0 t1 t2 t3 t4 : Slot} {n : Nat} (h : n = A.length + (L.length + 1 + 1 + 1 + 1 + 1)) : (A ++ (t0 :: t1 :: t2 :: t3 :: t4 :: (L ++ M))).take n = A ++ (t0 :: t1 :: t2 :: t3 :: t4 :: L):=by
  have e : A ++ (t0 :: t1 :: t2 :: t3 :: t4 :: (L ++ M)) = (A ++ (t0 :: t1 :: t2 :: t3 :: t4 :: L)) ++ M:=by simp
  rw [e,List.take_append_of_le_length (by simp; omega),List.take_of_length_le (by simp; omega)]
theorem dc24p (A L : St) (o0 o2 o3 o4 : D) (s1 : Slot) (l : List Word) (i : Nat) (e : Int) : Dcall Tryz.prog rxA (.fn (.func 24) [] [.ref A.length 0,.ref (A.length + 2) 0,.ref (A.length + 3) 0,.ref (A.length + 4) 0]) [] (some (fltD l i e))
      (A ++ (.cells [o0] :: s1 :: .cells [o2] :: .cells [o3] :: .cells [o4] :: L)) =
    some (none,A ++ (.cells [.sl .full 0 []] :: s1 :: .cells [.int .i64 (wordW l i).line] :: .cells [.int .i64 (wordW l i).col] :: .cells [.int .i64 e] :: L)):=by
  rw [rd24p]
  unfold d24p nd24p; dsimp only
  have has : ∀ z,assertV z (fltD l i e) 55 true = some (.tup [.agg [.int .i64 (wordW l i).line,.int .i64 (wordW l i).col,.int .i64 e],.bool true]):=fun _ => rfl
  have hin : binO .neq 1 true (fltD l i e) (.val .nilIface) = some (.bool true):=rfl
  generalize (wordW l i).line = x at *
  generalize (wordW l i).col = y at *
  have hk:=fun M => Kept5 (A:=A) (L:=L) (M:=M) (s0:=.cells [o0]) (s1:=s1) (s2:=.cells [o2]) (s3:=.cells [o3]) (s4:=.cells [o4]) (t0:=.cells [.sl .full 0 []]) (t1:=s1) (t2:=.cells [.int .i64 x]) (t3:=.cells [.int .i64 y]) (t4:=.cells [.int .i64 e]) (.inr (by simp)) (.inl rfl) (.inr (by simp)) (.inr (by simp)) (.inr (by simp))
  have hl3 : ∀ a b c,layCells true 3 0 [a,b,c] (.agg [.int .i64 x,.int .i64 y,.int .i64 e]) = some [D.int .i64 x,.int .i64 y,.int .i64 e]:=fun a b c => by simp [layCells,D.cellsT,D.agg?,allCells,D.cell?,splice]
  refine qbc ?_
  (repeat' first | (with_reducible first | apply qa4 | apply tp_gs0 | apply tp_gs1 | apply tp_gk | apply qaa (b:=true) | apply qaa (b:=false) | apply qaq | apply qao) | ((conv => arg 2; arg 1; simp (disch:=first | omega | assumption) only [qaf,qa5,ofCellsS,Nat.zero_add,Nat.add_zero,qbo,lay_int,lay_sl,List.length_append,List.length_cons,un_not,Bool.not_true,qa0,app_one,qbx,ld_sh,qbp,ldc0,ldcS,sto_sh,sto_sh0,stoc0,stocS,ext0,extS,sameAd_ref,get_sh,List.getElem?_cons_succ,hin,has,hk,hl3]); (with_reducible first | apply qab | apply qbi)))
  have htk : ∀ t0 t1 t2 t3 t4 M,(A ++ (t0 :: t1 :: t2 :: t3 :: t4 :: (L ++ M))).take (A ++ (Slot.cells [o0] :: s1 :: .cells [o2] :: .cells [o3] :: .cells [o4] :: L)).length = A ++ (t0 :: t1 :: t2 :: t3 :: t4 :: L):=fun _ _ _ _ _ _ => take5 (by simp)
  rw [htk]
  exact qak rfl
theorem dc24n (a b c d : D) (S : St) : Dcall Tryz.prog rxA (.fn (.func 24) [] [a,b,c,d]) [] none S = some (none,S):=by
  rw [rd24n]
  unfold d24n nd24n; dsimp only
  have hn : binO .neq 1 true (.val .nilIface) (.val .nilIface) = some (.bool false):=rfl
  refine qbc ?_
  (repeat' first | (with_reducible first | apply tp_gk | apply qaa (b:=false) | apply qao) | ((conv => arg 2; arg 1; simp (disch:=first | omega | assumption) only [qal,hn]); (with_reducible first | apply qab | apply qbi)))
  ((try conv => arg 2; simp only [List.take_length]); refine qak ?_)
  rfl
theorem s27 (v w : Iv) (B : St) (kv : Nat) (h : B[kv]? = some (.cells (ivC v))) : f27 (encIv w) (.ref kv 0) B = some (.ret (.bool (decide (w.nm = v.nm))),B):=by
  have hbx : boxO true (encIv w) B = some (.ref B.length 0,B ++ [.cells (ivC w)]):=by
    simp [boxO,cellIv,allocD]
  have hlt : kv < B.length:=(List.getElem?_eq_some_iff.1 h).1
  have hld : loadO false 1 (.ref kv 0) (B ++ [.cells (ivC w)]) = some (.str v.nm):=by rw [ld_old hlt,load_get h,ivc0]
  unfold f27 n27; dsimp only
  refine qbc ?_
  (repeat' first | (with_reducible first | apply qa4 | apply qai | (apply tot_seql; all_goals intro hsp)) | ((conv => arg 2; arg 1; simp (disch:=first | omega | assumption) only [qaf,Nat.add_zero,qbp,ldc0,hbx,hld,ivc0]); (with_reducible apply qab)))
  all_goals (((try conv => arg 2; simp (disch:=first | omega | assumption) only [qac,qa9,qaz,qae,qa3,qad,qag,List.take_left']); refine qak ?_); simp [*])
theorem s68_loop (v : Iv) (B : St) (kv : Nat) (h : B[kv]? = some (.cells (ivC v))) (l : List Iv) (hl : l.length ≤ 100000000) : ∀ (t : List Iv) (i : Nat),l.drop i = t →
    Tot (fun r => ∃ n : Int,-1 ≤ n ∧ (0 ≤ n ↔ knownP t v.nm = true) ∧ r = (.ret (.int .i64 n),B)) (LP Tryz.prog rxA 68 [0,1,0,1] [B] (Env.mk (sp [(0,encL 9 (l.map encIv)),(0,.fn (.func 27) [] [.ref kv 0]),(5,.int .i64 (l.length : Nat)),(0,.int .i64 (i : Nat))] 10) []) B):=by
  have hlt : kv < B.length:=(List.getElem?_eq_some_iff.1 h).1
  have hfs : (D.fn (.func 27) [] [.ref kv 0]).shut B.length = .fn (.func 27) [] [.ref kv 0]:=by simp [D.shut,D.shutL,hlt]
  intro t
  induction t with
  | nil =>
    intro i ht
    have h1:=drop_len ht
    refine qbj (q68_0 ..) ?_
    unfold n68_0; dsimp only
    (repeat' first | (with_reducible first | apply qai | apply qaa (b:=false) | apply qao) | ((conv => arg 2; arg 1; simp only [Option.map_some,qar,qa6,qbd,qbb]); (with_reducible first | apply qab | (apply qba; omega))))
    ((try conv => arg 2; simp only [qac,qaj,qal,qae,List.take_length,qah,qad,qag]); refine qak ?_)
    exact ⟨-1,by omega,by simp [knownP],rfl⟩
  | cons x t ih =>
    intro i ht
    have h1:=drop_lt ht
    have hx:=idx_drop (f:=encIv) ht 9 true .i64
    have hcn : (encIv x).canon = encIv x:=(plainIv x).canon
    have hrc : (D.ref kv 0).canon = .ref kv 0:=rfl
    have hca : applyD (Run Tryz.prog rxA) (.fn (.func 27) [] [.ref kv 0]) [encIv x] B = some (.ret (.bool (decide (x.nm = v.nm))),B):=by
      rw [app_fn]
      show Run Tryz.prog rxA 27 [encIv x,.ref kv 0] B = _
      rw [r27,hcn,hrc]
      exact s27 v x B kv h
    refine qbj (q68_0 ..) ?_
    unfold n68_0; dsimp only
    by_cases he : x.nm = v.nm
    · rw [decide_eq_true he] at hca
      (repeat' first | (with_reducible first | apply qa4 | apply qat | apply qai | apply qaa (b:=true) | apply qaq) | ((conv => arg 2; arg 1; simp (disch:=first | omega | assumption) only [Option.map_some,qar,qbg,qa6,qbd,qbb,qa0,hx,cellIv,ivcA,hca]); (with_reducible first | apply qab | (apply qa1; omega))))
      ((try conv => arg 2; simp only [qac,qaj,qal,qae,List.take_length,qah,qad,qag]); refine qak ?_)
      exact ⟨(i : Int),by omega,by simp [knownP,he],rfl⟩
    · rw [decide_eq_false he] at hca
      have hih:=ih (i + 1) (qbt ht)
      have e : knownP (x :: t) v.nm = knownP t v.nm:=by simp [knownP,he]
      rw [← e] at hih
      (repeat' first | (with_reducible first | apply qa4 | apply qat | apply tp_gk | apply qaa (b:=true) | apply qaa (b:=false) | apply qaq | apply qao) | ((conv => arg 2; arg 1; simp (disch:=first | omega | assumption) only [qa7,qa2,qal,qbg,qa6,qbd,qbb,qa0,hx,cellIv,ivcA,hca]); (with_reducible first | apply qab | apply qbi | (apply qa1; omega))))
      conv => arg 2; simp (disch:=first | omega | assumption) only [qaj,qbr,List.take_length,List.map_nil,qa6,qbd,qbb,ivs_shut,hfs]
      exact hih
theorem s26 (v : Iv) (B : St) (kv : Nat) (h : B[kv]? = some (.cells (ivC v))) (l : List Iv) (hl : l.length ≤ 100000000) :
    f26 (encL 9 (l.map encIv)) (.fn (.func 27) [] [.ref kv 0]) B = some (.ret (.bool (knownP l v.nm)),B):=by
  have hlo:=s68_loop v B kv h l hl l 0 rfl
  have hfc : (D.fn (.func 27) [] [.ref kv 0]).canon = .fn (.func 27) [] [.ref kv 0]:=rfl
  unfold f26 n26; dsimp only
  refine qbc ?_
  conv => arg 2; arg 1; simp (disch:=first | omega | assumption) only [r68,ivs_canon,hfc]
  have h2 : Tot (fun r => ∃ n : Int,-1 ≤ n ∧ (0 ≤ n ↔ knownP l v.nm = true) ∧ r = (.ret (.int .i64 n),B)) (f68 (encL 9 (l.map encIv)) (.fn (.func 27) [] [.ref kv 0]) B):=by
    unfold f68 n68; dsimp only
    (repeat' first | ((conv => arg 2; arg 1; simp only [qbl,List.length_map]); (with_reducible apply qab)))
    conv => arg 2; simp only []
    exact hlo
  refine tot_bn h2 fun z hz => ?_
  obtain ⟨n,hn,hk,rfl⟩:=hz
  cases hq : knownP l v.nm with
  | true =>
    have:=hk.2 hq
    (repeat' first | (with_reducible first | apply qat | apply qai | (apply tot_geq_t; omega)))
    ((try conv => arg 2; simp only [qac,qa9,qal,qae,List.take_length,qa3,qad,qag]); refine qak ?_)
    rfl
  | false =>
    have : ¬ 0 ≤ n:=fun h => by have:=hk.1 h; rw [hq] at this; cases this
    (repeat' first | (with_reducible first | apply qat | apply qai | (apply tot_geq_f; omega)))
    ((try conv => arg 2; simp only [qac,qa9,qal,qae,List.take_length,qa3,qad,qag]); refine qak ?_)
    rfl
end Go.Vm.Rx
