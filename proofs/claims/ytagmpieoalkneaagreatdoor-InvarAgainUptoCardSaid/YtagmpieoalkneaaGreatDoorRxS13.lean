/- RxS10, RxS11, RxS12, VmSt2, RxS13 in one text. -/
import Derived.Test.YtagmpieoalkneaaGreatDoorRxS9
import Derived.Test.YtagmpieoalkneaaGreatDoorRxS1
set_option linter.all false
/- What the program's tests of expressions come to. -/
namespace Go.Vm.Rx
open Go Go.Proofs P
set_option maxRecDepth 10000
set_option maxHeartbeats 1100000
theorem rx_lay (r : Rx) (a b c : D) : layCells true 3 0 [a,b,c] (encRx r) = some [.int .i64 r.op,.str r.nm,encL 3 (r.ks.map encRx)]:=by
  rw [encRx_eq]
  simp [layCells,D.cellsT,D.agg?,allCells,D.cell?,splice,encL]
def fewOut (left size : Int) (A : St) (x : Res × St) : Prop:=∃ n : Int,x = (.ret (.int .i64 n),A) ∧ (size ≤ left → n = left - size) ∧ (¬ size ≤ left → n = -1)
theorem s81_loop (A : St) (r : Rx) (hr : r.Ok) (hk : ∀ k,k ∈ r.ks → ∀ m,0 ≤ m → m ≤ 1100000 → ∀ A,Tot (fewOut m k.size A) (f81 (encRx k) (.int .i64 m) A)) :
    ∀ (t : List Rx) (i : Nat) (n : Int) (L : St),r.ks.drop i = t → -1 ≤ n → n ≤ 1100000 →
    Tot (fewOut n (Rx.sizes t) A) (LP Tryz.prog rxA 81 [0,1,0,1,1] [A] (Env.mk (sp [(1,.int .i64 n),(8,encL 3 (r.ks.map encRx)),(0,.int .i64 (r.ks.length : Nat)),(0,.int .i64 (i : Nat))] 11) []) (A ++ L)):=by
  intro t
  have hl:=hr.len
  induction t with
  | nil =>
    intro i n L ht h1 h2
    have hl1:=drop_len ht
    refine qbj (q81_0 ..) ?_
    unfold n81_0; dsimp only
    (repeat' first | (with_reducible first | apply qai | apply qaa (b:=false) | apply qao) | ((conv => arg 2; arg 1; simp only [Option.map_some,qar,qa6,qbd,qbb]); (with_reducible first | apply qab | (apply qba; omega))))
    ((try conv => arg 2; simp (disch:=first | omega | assumption) only [qac,qaj,qaz,qae,qah,qad,qag,List.take_left']); refine qak ?_)
    refine ⟨n,rfl, ?_, ?_⟩ <;> (try simp only [Rx.sizes]) <;> omega
  | cons k t ih =>
    intro i n L ht h1 h2
    have hl1:=drop_lt ht
    have hx:=idx_drop (f:=encRx) ht 3 true .i64
    have hsz : Rx.sizes (k :: t) = k.size + Rx.sizes t:=rfl
    have hsp:=Rx.size_pos k
    refine qbj (q81_0 ..) ?_
    unfold n81_0; dsimp only
    by_cases hn : 0 ≤ n
    · have hkk:=hk k (drop_mem ht) n hn h2
      (repeat' first | (with_reducible first | apply qa4 | apply qaa (b:=true) | apply qaa (b:=false) | apply qaq | apply qao) | ((conv => arg 2; arg 1; simp (disch:=first | omega | assumption) only [qbg,qbo,ofA3,List.length_append,qa6,qbd,qbb,qa0,app_one,ld_sh,qbp,ldc0,sto_sh,sto_sh0,stoc0,hx,rx_cell,rx_fold,rx_lay]); (with_reducible first | apply qab | (apply qa1; omega) | (apply qba; omega))))
      conv => arg 2; arg 1; simp (disch:=first | omega | assumption) only [qa6,qbd,qah,rx_canon,r81]
      refine tot_bn (hkk _) fun x hx => ?_
      obtain ⟨m,rfl,hg,hb⟩:=hx
      (repeat' first | (with_reducible first | apply qat | apply tp_gk) | ((conv => arg 2; arg 1; simp (disch:=first | omega | assumption) only [qa7,qa2,qa6,qbd,qbb,Kept_app2]); (with_reducible first | apply qab | apply qbi)))
      have:=ih (i + 1) m L (qbt ht) (by omega) (by omega)
      conv => arg 2; simp (disch:=first | omega | assumption) only [qaj,qbr,List.map_nil,List.length_append,qa6,qbd,qbb,take_app2,rxs_shut]
      refine Tot.mono this fun y hy => ?_
      obtain ⟨N,rfl,h5,h6⟩:=hy
      refine ⟨N,rfl, ?_, ?_⟩ <;> rw [hsz] <;> omega
    · (repeat' first | (with_reducible first | apply qa4 | apply qai | apply qaa (b:=true) | apply qaq) | ((conv => arg 2; arg 1; simp (disch:=first | omega | assumption) only [Option.map_some,qar,qbg,qbo,ofA3,List.length_append,qa6,qbd,qbb,qa0,app_one,sto_sh,sto_sh0,stoc0,hx,rx_cell,rx_fold,rx_lay]); (with_reducible first | apply qab | (apply qa1; omega))))
      ((try conv => arg 2; simp (disch:=first | omega | assumption) only [qac,qaj,qaz,qae,qah,qad,qag,List.take_left']); refine qak ?_)
      refine ⟨n,rfl, ?_, ?_⟩ <;> rw [hsz] at * <;> omega
theorem s81 : ∀ (r : Rx) (hr : r.Ok) (left : Int) (h0 : 0 ≤ left) (h1 : left ≤ 1100000) (A : St),Tot (fewOut left r.size A) (f81 (encRx r) (.int .i64 left) A):=by
  refine Rx.ind ?_
  intro r ih hr left h0 h1 A
  have hl:=hr.len
  unfold f81 n81; dsimp only
  (repeat' first | (with_reducible apply qa4) | ((conv => arg 2; arg 1; simp (disch:=first | omega | assumption) only [binO_sub,qa2,qaf,qa5,ofCellsS,Nat.zero_add,qbl,qbp,ldc0,List.length_map,rx_box]); (with_reducible apply qab)))
  have:=s81_loop A r hr (fun k hk m h1 h2 A => ih k hk (hr.kid hk) m h1 h2 A) r.ks 0 (left - 1) [.cells [.int .i64 r.op,.str r.nm,encL 3 (r.ks.map encRx)]] rfl (by omega) (by omega)
  conv => arg 2; simp only []
  refine Tot.mono this fun y hy => ?_
  obtain ⟨N,rfl,h5,h6⟩:=hy
  have e1:=Rx.size_eq r
  exact ⟨N,rfl,by omega,by omega⟩
def measOut (most deep : Int) (size depth : Int) (A : St) (x : Res × St) : Prop :=
  x = (.ret (if size ≤ most ∧ depth ≤ deep then .tup [.int .i64 size,.int .i64 depth,.bool true] else .tup [.int .i64 0,.int .i64 0,.bool false]),A)
theorem s82_loop (A : St) (r : Rx) (hr : r.Ok) (most deep : Int) (hm : 1 ≤ most) (hm2 : most ≤ 1100000) (hd1 : 1 ≤ deep) (hd2 : deep ≤ 1100000)
    (hk : ∀ k,k ∈ r.ks → ∀ m,m ≤ 1100000 → -1100000 ≤ m → ∀ A,Tot (measOut m (deep - 1) k.size k.depth A) (f82 (encRx k) (.int .i64 m) (.int .i64 (deep - 1)) A)) :
    ∀ (t : List Rx) (i : Nat) (n d : Int) (L : St),r.ks.drop i = t → 0 ≤ n → n ≤ most → 0 ≤ d → d ≤ deep - 1 →
    Tot (measOut most deep (n + (Rx.sizes t : Int)) (max d (Rx.depths t : Int) + 1) A) (LP Tryz.prog rxA 82 [0,1,0,1,1,1] [A] (Env.mk (sp [(1,.int .i64 most),(0,.int .i64 deep),(6,.int .i64 n),(0,.int .i64 d),(12,encL 3 (r.ks.map encRx)),(0,.int .i64 (r.ks.length : Nat)),(0,.int .i64 (i : Nat))] 26) []) (A ++ L)):=by
  intro t
  have hl:=hr.len
  induction t with
  | nil =>
    intro i n d L ht h1 h2 h3 h4
    have hl1:=drop_len ht
    refine qbj (q82_0 ..) ?_
    unfold n82_0; dsimp only
    (repeat' first | (with_reducible first | apply qai | apply qaa (b:=false) | apply qao) | ((conv => arg 2; arg 1; simp (disch:=first | omega | assumption) only [Option.map_some,qa7,qa2,qar,qa6,qbd,qbb]); (with_reducible first | apply qab | (apply qba; omega))))
    ((try conv => arg 2; simp (disch:=first | omega | assumption) only [qac,qaj,qa9,qbv,qax,qau,qaz,qae,qah,qa3,qbq,qav,qas,qad,qag,List.take_left']); refine qak ?_)
    unfold measOut
    have e1 : max d ((Rx.depths ([] : List Rx) : Nat) : Int) = d:=by simp only [Rx.depths]; omega
    have e2 : n + ((Rx.sizes ([] : List Rx) : Nat) : Int) = n:=by simp only [Rx.sizes]; omega
    rw [e1,e2,if_pos (by omega)]
  | cons k t ih =>
    intro i n d L ht h1 h2 h3 h4
    have hl1:=drop_lt ht
    have hx:=idx_drop (f:=encRx) ht 3 true .i64
    have hsz : Rx.sizes (k :: t) = k.size + Rx.sizes t:=rfl
    have hdp : Rx.depths (k :: t) = max k.depth (Rx.depths t):=rfl
    have hsp:=Rx.size_pos k
    refine qbj (q82_0 ..) ?_
    unfold n82_0; dsimp only
    have hkk:=hk k (drop_mem ht) (most - n) (by omega) (by omega)
    (repeat' first | (with_reducible first | apply qa4 | apply qaa (b:=true) | apply qaq) | ((conv => arg 2; arg 1; simp (disch:=first | omega | assumption) only [binO_sub,qa2,qbg,qbo,ofA3,List.length_append,qa6,qbd,qbb,qa0,app_one,ld_sh,qbp,ldc0,sto_sh,sto_sh0,stoc0,hx,rx_cell,rx_fold,rx_lay]); (with_reducible first | apply qab | (apply qa1; omega))))
    conv => arg 2; arg 1; simp (disch:=first | omega | assumption) only [qah,rx_canon,r82]
    refine tot_bn (hkk _) fun x hx => ?_
    unfold measOut at hx
    by_cases hc : (k.size : Int) ≤ most - n ∧ (k.depth : Int) ≤ deep - 1
    · rw [if_pos hc] at hx
      subst hx
      have:=ih (i + 1) (n + k.size) (max d k.depth) L (qbt ht) (by omega) (by omega) (by omega) (by omega)
      (repeat' first | (with_reducible first | apply qat | apply tp_gk | apply qaa (b:=false) | apply qao) | ((conv => arg 2; arg 1; simp (disch:=first | omega | assumption) only [qa7,qa2,un_not,Bool.not_true,qa6,qbd,qbb,ext0,extS,Kept_app2,minmax_t]); (with_reducible first | apply qab | apply qbi)))
      conv => arg 2; simp (disch:=first | omega | assumption) only [qaj,qbr,List.map_nil,List.length_append,qa6,qbd,qbb,take_app2,rxs_shut]
      refine Tot.mono this fun y hy => ?_
      unfold measOut at hy ⊢
      rw [hy,hsz,hdp]
      have e1 : n + ((k.size + Rx.sizes t : Nat) : Int) = n + k.size + (Rx.sizes t : Int):=by omega
      have e2 : max d ((max k.depth (Rx.depths t) : Nat) : Int) = max (max d (k.depth : Int)) (Rx.depths t : Int):=by omega
      rw [e1,e2]
    · rw [if_neg hc] at hx
      subst hx
      (repeat' first | (with_reducible first | apply qat | apply qai | apply qaa (b:=true) | apply qaq) | ((conv => arg 2; arg 1; simp only [Option.map_some,qar,un_not,Bool.not_false,ext0,extS]); (with_reducible apply qab)))
      ((try conv => arg 2; simp (disch:=first | omega | assumption) only [qac,qaj,qa9,qbv,qax,qau,qaz,qae,qah,qa3,qbq,qav,qas,qad,qag,List.take_left']); refine qak ?_)
      unfold measOut
      rw [if_neg (by rw [hsz,hdp]; omega)]
theorem s82 : ∀ (r : Rx) (hr : r.Ok) (deep most : Int) (hd : deep ≤ 1100000) (hd0 : -1100000 ≤ deep) (hm0 : -1100000 ≤ most) (hm : most ≤ 1100000) (A : St),Tot (measOut most deep r.size r.depth A) (f82 (encRx r) (.int .i64 most) (.int .i64 deep) A):=by
  refine Rx.ind ?_
  intro r ih hr deep most hd hd0 hm0 hm A
  have hp:=Rx.depth_pos r
  have hp2:=Rx.size_pos r
  have hl:=hr.len
  unfold f82 n82; dsimp only
  (repeat' first | (with_reducible first | apply qab | apply qa4 | apply qbn | apply qai | apply qaw (b:=true) | apply qaw (b:=false) | apply qaa (b:=true) | apply qaa (b:=false) | apply qaq | apply qao | apply tot_iftf | apply tot_ifff | (apply tot_lss; all_goals intro hsp)) | ((conv => arg 2; arg 1; simp (disch:=first | omega | assumption) only [qbm,qbf,qaf,qa5,ofCellsS,Nat.zero_add,qbl,qbp,ldc0,List.length_map,rx_box]); (with_reducible first | apply qab | apply qaa (b:=true) | apply qaa (b:=false))))
  · ((try conv => arg 2; simp (disch:=first | omega | assumption) only [qac,qaj,qa9,qbv,qax,qau,qaz,qae,qah,qa3,qbq,qav,qas,qad,qag,List.take_left']); refine qak ?_)
    unfold measOut
    rw [if_neg (by omega)]
  · ((try conv => arg 2; simp (disch:=first | omega | assumption) only [qac,qaj,qa9,qbv,qax,qau,qaz,qae,qah,qa3,qbq,qav,qas,qad,qag,List.take_left']); refine qak ?_)
    unfold measOut
    rw [if_neg (by omega)]
  · have:=s82_loop A r hr most deep (by omega) hm (by omega) hd (fun k hk m h1 h2 A => ih k hk (hr.kid hk) (deep - 1) m (by omega) (by omega) h2 h1 A) r.ks 0 1 0 [.cells [.int .i64 r.op,.str r.nm,encL 3 (r.ks.map encRx)]] rfl (by omega) (by omega) (by omega) (by omega)
    conv => arg 2; simp only []
    refine Tot.mono this fun y hy => ?_
    unfold measOut at hy ⊢
    rw [hy,Rx.size_eq,Rx.depth_eq]
    have e1 : ((Rx.sizes r.ks + 1 : Nat) : Int) = 1 + (Rx.sizes r.ks : Int):=by omega
    have e2 : ((Rx.depths r.ks + 1 : Nat) : Int) = max 0 (Rx.depths r.ks : Int) + 1:=by omega
    rw [e1,e2]
end Go.Vm.Rx

/- Which expressions may be: both texts' answers. -/
namespace Go.Vm.Rx
open Go Go.Proofs P
set_option maxRecDepth 10000
set_option maxHeartbeats 2000000
def badKid (op : Int) (k : Rx) : Bool:=(decide (op = 4) || decide (op = 5)) && decide (k.op = op) || !k.right
theorem s121 (r k : Rx) (j : Nat) (B : St) (hj : j < B.length) (hB : B[j]? = some (.cells [.int .i64 r.op,.str r.nm,encL 3 (r.ks.map encRx)]))
    (hk : ∀ A,f83 (encRx k) A = some (.ret (.bool k.right),A)) : f121 (encRx k) (.ref j 0) B = some (.ret (.bool (badKid r.op k)),B):=by
  have hld : ∀ L,loadO false 1 (.ref j 0) (B ++ L) = some (.int .i64 r.op):=fun L => by
    rw [ld_old hj,load_ref hB]; rfl
  unfold f121 n121; dsimp only
  refine qbc ?_
  (repeat' first | (with_reducible first | apply qab | apply qa4 | apply qbn | apply qat | apply qai | apply qaw (b:=true) | apply qaw (b:=false) | apply qaa (b:=true) | apply qaa (b:=false) | apply tot_iftt | apply tot_ifft | apply tot_iftf | apply tot_ifff | (apply tot_eql; all_goals intro hsp)) | ((conv => arg 2; arg 1; simp (disch:=first | omega | assumption) only [qbm,qbf,qaf,qa5,Nat.add_zero,ofA3,un_not,qbp,ldc0,rx_box,hld,rx_fold,rx_canon,r83,hk]); (with_reducible first | apply qab | apply qaw (b:=true) | apply qaw (b:=false) | apply qaa (b:=true) | apply qaa (b:=false))))
  all_goals (((try conv => arg 2; simp (disch:=first | omega | assumption) only [qbm,qbf,qac,qa9,qaz,qae,qa3,qad,qag,List.take_left']); refine qak ?_); unfold badKid; by_cases h1 : r.op = 4 <;> by_cases h2 : r.op = 5 <;> by_cases h3 : k.op = r.op <;> first | (exfalso; omega) | simp_all)
theorem s153_loop (r : Rx) (hr : r.Ok) (j : Nat) (B : St) (hj : j < B.length) (hB : B[j]? = some (.cells [.int .i64 r.op,.str r.nm,encL 3 (r.ks.map encRx)]))
    (hk : ∀ k,k ∈ r.ks → ∀ A,f83 (encRx k) A = some (.ret (.bool k.right),A)) : ∀ (t : List Rx) (i : Nat),r.ks.drop i = t →
    LP Tryz.prog rxA 153 [0,1,0,1] [B] (Env.mk (sp [(0,encL 3 (r.ks.map encRx)),(0,.fn (.func 121) [] [.ref j 0]),(5,.int .i64 (r.ks.length : Nat)),(0,.int .i64 (i : Nat))] 10) []) B =
      some (.ret (.int .i64 (match t.findIdx? (badKid r.op) with | some q => ((i + q : Nat) : Int) | none => -1)),B):=by
  intro t
  have hl:=hr.len
  have hshf : (D.fn (.func 121) [] [.ref j 0]).shut B.length = .fn (.func 121) [] [.ref j 0]:=by
    simp only [D.shut,D.shutL,hj,if_true]
  induction t with
  | nil =>
    intro i ht
    have h1:=drop_len ht
    refine qbc (qbj (q153_0 ..) ?_)
    unfold n153_0; dsimp only
    (repeat' first | (with_reducible first | apply qai | apply qaa (b:=false) | apply qao) | ((conv => arg 2; arg 1; simp only [Option.map_some,qar,qa6,qbd,qbb]); (with_reducible first | apply qab | (apply qba; omega))))
    ((try conv => arg 2; simp only [qac,qaj,qal,qae,List.take_length,qah,qad,qag]); refine qak ?_)
    rfl
  | cons k t ih =>
    intro i ht
    have h1:=drop_lt ht
    have hx:=idx_drop (f:=encRx) ht 3 true .i64
    have hkk:=s121 r k j B hj hB (hk k (drop_mem ht))
    have hcl : applyD (Run Tryz.prog rxA) (.fn (.func 121) [] [.ref j 0]) [encRx k] B = some (.ret (.bool (badKid r.op k)),B):=by
      rw [app_fn]
      show Run Tryz.prog rxA 121 [encRx k,.ref j 0] B = _
      rw [r121,rx_canon]
      exact hkk
    refine qbc (qbj (q153_0 ..) ?_)
    unfold n153_0; dsimp only
    (repeat' first | (with_reducible first | apply qa4 | apply qat | apply tp_gk | apply qai | apply qaa (b:=true) | apply qaq | apply qao | (apply tot_bq; all_goals intro hsp)) | ((conv => arg 2; arg 1; simp (disch:=first | omega | assumption) only [Option.map_some,qa7,qa2,qal,qar,qbg,ofA3,qa6,qbd,qbb,qa0,hx,rx_cell,rx_fold,hcl]); (with_reducible first | apply qab | apply qbi | (apply qa1; omega))))
    · ((try conv => arg 2; simp only [qac,qaj,qal,qae,List.take_length,qah,qad,qag]); refine qak ?_)
      simp only [List.findIdx?_cons, *,if_true]
      simp
    · have:=ih (i + 1) (qbt ht)
      conv => arg 2; simp (disch:=first | omega | assumption) only [qaj,qbr,List.take_length,List.map_nil,qa6,qbd,qbb,rxs_shut,hshf]
      refine qa8 ?_
      simp only [List.findIdx?_cons, *,if_false,Bool.false_eq_true]
      cases hf : t.findIdx? (badKid r.op) with
      | none => rw [hf] at this; exact this
      | some q =>
        rw [hf] at this
        have e : ((i + 1 + q : Nat) : Int) = ((i + (q + 1) : Nat) : Int):=by omega
        simp only [Option.map_some]
        rw [← e]; exact this
theorem s120 (r : Rx) (hr : r.Ok) (j : Nat) (B : St) (hj : j < B.length) (hB : B[j]? = some (.cells [.int .i64 r.op,.str r.nm,encL 3 (r.ks.map encRx)]))
    (hk : ∀ k,k ∈ r.ks → ∀ A,f83 (encRx k) A = some (.ret (.bool k.right),A)) :
    f120 (encL 3 (r.ks.map encRx)) (.fn (.func 121) [] [.ref j 0]) B = some (.ret (.bool (r.ks.any (badKid r.op))),B):=by
  have hcf : (D.fn (.func 121) [] [.ref j 0]).canon = .fn (.func 121) [] [.ref j 0]:=rfl
  have hi : f153 (encL 3 (r.ks.map encRx)) (.fn (.func 121) [] [.ref j 0]) B = some (.ret (.int .i64 (match r.ks.findIdx? (badKid r.op) with | some q => ((0 + q : Nat) : Int) | none => -1)),B):=by
    have:=s153_loop r hr j B hj hB hk r.ks 0 rfl
    unfold f153 n153; dsimp only
    refine qbc ?_
    (repeat' first | ((conv => arg 2; arg 1; simp only [qbl,List.length_map]); (with_reducible apply qab)))
    (refine qa8 ?_; (conv => lhs; simp only []); exact this)
  have hany : r.ks.any (badKid r.op) = (r.ks.findIdx? (badKid r.op)).isSome:=by rw [List.findIdx?_isSome]
  unfold f120 n120; dsimp only
  rw [hany]
  refine qbc ?_
  cases hf : r.ks.findIdx? (badKid r.op) with
  | none =>
    rw [hf] at hi
    simp only at hi
    (repeat' first | (with_reducible first | apply qat | apply qai | (apply tot_geq_f; omega)) | ((conv => arg 2; arg 1; simp (disch:=first | omega | assumption) only [rxs_canon,hcf,r153,hi]); (with_reducible apply qab)))
    ((try conv => arg 2; simp only [qac,qa9,qal,qae,List.take_length,qa3,qad,qag]); refine qak ?_)
    rfl
  | some q =>
    rw [hf] at hi
    simp only at hi
    (repeat' first | (with_reducible first | apply qat | apply qai | (apply tot_geq_t; omega)) | ((conv => arg 2; arg 1; simp (disch:=first | omega | assumption) only [Nat.zero_add,rxs_canon,hcf,r153,hi]); (with_reducible apply qab)))
    ((try conv => arg 2; simp only [qac,qa9,qal,qae,List.take_length,qa3,qad,qag]); refine qak ?_)
    rfl
theorem rights_any (op : Int) : ∀ (ks : List Rx),ks.any (badKid op) = !(Rx.rights ks && !((decide (op = 4) || decide (op = 5)) && hasOp op ks))
  | [] => by simp [Rx.rights,hasOp]
  | k :: ks => by
    have:=rights_any op ks
    simp only [List.any_cons,this,Rx.rights,hasOp,badKid]
    have e : (k.op == op) = decide (k.op = op):=by rw [Bool.eq_iff_iff]; simp
    rw [e]
    generalize (decide (op = 4) || decide (op = 5)) = a
    generalize decide (k.op = op) = b
    generalize k.right = c
    generalize Rx.rights ks = d
    generalize (ks.any fun k => k.op == op) = f
    cases a <;> cases b <;> cases c <;> cases d <;> cases f <;> rfl
theorem s83 : ∀ (r : Rx) (hr : r.Ok) (A : St),f83 (encRx r) A = some (.ret (.bool r.right),A):=by
  refine Rx.ind ?_
  intro r ih hr A
  have hl:=hr.len
  have hn:=hr.nml
  have hcf : (D.fn (.func 121) [] [.ref A.length 0]).canon = .fn (.func 121) [] [.ref A.length 0]:=rfl
  have hct:=s120 r hr A.length (A ++ [.cells [.int .i64 r.op,.str r.nm,encL 3 (r.ks.map encRx)]]) (by simp) (by simp) (fun k hk A => ih k hk (hr.kid hk) A)
  unfold f83 n83; dsimp only
  refine qbc ?_
  (repeat' first | (with_reducible first | apply qab | apply qa4 | apply qbn | apply qat | apply qai | apply qaw (b:=true) | apply qaw (b:=false) | apply tot_gbn | apply qaa (b:=true) | apply qaa (b:=false) | apply qaq | apply qao | apply tot_iftt | apply tot_ifft | apply tot_iftf | apply tot_ifff | apply tot_if_n | (apply tot_gtr; all_goals intro hsp) | (apply tot_eql; all_goals intro hsp) | (apply tot_neq; all_goals intro hsp) | (apply tot_sneq; all_goals intro hsp) | (apply tot_gb_t; assumption) | (apply tot_gb_f; assumption) | (apply tot_bq_t; assumption) | (apply tot_bq_f; assumption) | (apply tot_gb; all_goals intro hsp)) | ((conv => arg 2; arg 1; simp (disch:=first | omega | assumption) only [qbm,qbf,qaf,qa5,ofCellsS,Nat.zero_add,Nat.add_zero,un_not,Bool.not_true,Bool.not_false,qap,qbl,qbp,ldc0,List.length_map,neq_tt,neq_tf,neq_ft,neq_ff,rx_box,r34,s34,rxs_canon,hcf,r120,hct]); (with_reducible first | apply qab | apply qaw (b:=true) | apply qaw (b:=false) | apply qaa (b:=true) | apply qaa (b:=false) | apply tot_gb_n | apply tot_bq_n)))
  all_goals (((try conv => arg 2; simp (disch:=first | omega | assumption) only [qac,qa9,qaz,qae,qa3,qad,qag,List.take_left',rights_any]); refine qak ?_); rw [Rx.right_eq,nodeOk_int])
  all_goals (simp (disch:=first | omega | assumption) only [iT,iF,dT,dF, *,Bool.and_true,Bool.true_and,Bool.and_false,Bool.false_and,Bool.or_true,Bool.true_or,Bool.or_false,Bool.false_or,Bool.not_true,Bool.not_false,Bool.not_not])
  all_goals first
    | done
    | rfl
    | (cases Rx.rights r.ks <;> cases hasOp 4 r.ks <;> rfl)
    | (cases Rx.rights r.ks <;> cases hasOp 5 r.ks <;> rfl)
    | (simp; done)
end Go.Vm.Rx

/- Check and Size: both texts' answers. -/
namespace Go.Vm.Rx
open Go Go.Proofs P
set_option maxRecDepth 10000
set_option maxHeartbeats 2000000
theorem s37 (r : Rx) (hr : r.Ok) (A : St) : f37 (encRx r) A = some (.ret (.int .i64 r.check),A):=by
  have h1:=fun A => s81 r hr 1000 (by omega) (by omega) A
  have h2:=fun A => s82 r hr 100 1000 (by omega) (by omega) (by omega) (by omega) A
  have h3:=fun A => s83 r hr A
  have hdl:=Rx.depth_le r
  unfold f37 n37; dsimp only
  refine qbc ?_
  (repeat' first | (with_reducible apply qa4) | ((conv => arg 2; arg 1; simp (disch:=first | omega | assumption) only [ofA3,qbp,ldc0,rx_box,rx_fold]); (with_reducible apply qab)))
  conv => arg 2; arg 1; simp (disch:=first | omega | assumption) only [qah,rx_canon,r81]
  refine tot_bn (h1 _) fun x hx => ?_
  obtain ⟨n,rfl,hg,hb⟩:=hx
  (repeat' first | (with_reducible first | apply qa4 | apply qat | apply qai | apply qaa (b:=true) | apply qaa (b:=false) | apply qaq | apply qao | (apply tot_lss; all_goals intro hsp)) | ((conv => arg 2; arg 1; simp (disch:=first | omega | assumption) only [ofA3,qbp,ldc0,rx_fold]); (with_reducible apply qab)))
  · ((try conv => arg 2; simp (disch:=first | omega | assumption) only [qac,qaj,qaz,qae,qah,qad,qag,List.take_left']); refine qak ?_)
    unfold Rx.check
    rw [if_pos (by omega)]
  · conv => arg 2; arg 1; simp (disch:=first | omega | assumption) only [qah,rx_canon,r82]
    refine tot_bn (h2 _) fun x hx => ?_
    unfold measOut at hx
    by_cases hc : (r.size : Int) ≤ 1000 ∧ (r.depth : Int) ≤ 100
    · rw [if_pos hc] at hx
      subst hx
      (repeat' first | (with_reducible first | apply qa4 | apply qat | apply qai | apply qaa (b:=false) | apply qaq | apply qao | apply tot_if_n | apply tot_bq_n | (apply tot_bq; all_goals intro hsp)) | ((conv => arg 2; arg 1; simp (disch:=first | omega | assumption) only [ofA3,un_not,Bool.not_true,qbp,ldc0,ext0,extS,rx_fold,rx_canon,r83,h3]); (with_reducible apply qab)))
      all_goals (((try conv => arg 2; simp (disch:=first | omega | assumption) only [qac,qaj,qaz,qae,qah,qad,qag,List.take_left']); refine qak ?_); unfold Rx.check)
      all_goals simp (disch:=first | omega | assumption) only [iT,iF, *,if_true,if_false,Bool.false_eq_true]
    · rw [if_neg hc] at hx
      subst hx
      (repeat' first | (with_reducible first | apply qat | apply qai | apply qaa (b:=true) | apply qaq) | ((conv => arg 2; arg 1; simp only [un_not,Bool.not_false,ext0,extS]); (with_reducible apply qab)))
      all_goals (((try conv => arg 2; simp (disch:=first | omega | assumption) only [qac,qaj,qaz,qae,qah,qad,qag,List.take_left']); refine qak ?_); unfold Rx.check)
      all_goals simp (disch:=first | omega | assumption) only [iT,iF, *,if_true,if_false,Bool.false_eq_true]
end Go.Vm.Rx

/- Growing rows and written slots together. -/
namespace Go.Vm
open Go.RowKit
section
variable {b : Option Nat} {g : Bool} {n w off k j : Nat} {A L : St} {ds cs cs' : List D} {s0 s1 s2 : Slot} {d : D}
theorem accA_len : A.length ≤ (accA b A ds).length:=by cases b <;> simp [accA]
theorem accA_get {i : Nat} (h : i < A.length) : (accA b A ds)[i]? = A[i]?:=by
  cases b
  · simp only [accA]; rw [List.getElem?_append_left h]
  · rfl
theorem acc_ld0 : loadO g n (.ref A.length off) (accA b (A ++ (.cells cs :: L)) ds) = ofCells g cs off n:=by
  rw [accA_load (by simp),qbp,ldc0]
theorem acc_sto0 : storeO g n (.ref A.length off) d (accA b (A ++ (.cells cs :: L)) ds) = mp (layCells g n off cs d) fun cs' => accA b (A ++ (.cells cs' :: L)) ds:=by
  rw [accA_store (by simp),sto_sh0,stoc0]
  unfold mp; cases layCells g n off cs d <;> rfl
theorem accL_Kept : Kept A (accA b (A ++ L) ds) ↔ True:=by
  cases b
  · simp only [accA]; rw [List.append_assoc]; exact qaz _ _
  · exact qaz _ _
theorem accL_take : (accA b (A ++ L) ds).take A.length = A:=by
  cases b
  · simp only [accA]; rw [List.append_assoc]; exact List.take_left ..
  · exact List.take_left ..
theorem st_appr (hk : k < A.length) : st A k cs ++ L = st (A ++ L) k cs:=(st_app hk).symm
theorem st_accr (hk : k < A.length) : accA b (st A k cs) ds = st (accA b A ds) k cs:=(accA_st hk).symm
theorem st_ldo (h : j ≠ k) : loadO g n (.ref j off) (st A k cs) = loadO g n (.ref j off) A:=by
  simp only [loadO,st_other h]
theorem st_sto (h : j ≠ k) : storeO g n (.ref j off) d (st A k cs) = mp (storeO g n (.ref j off) d A) fun A' => st A' k cs:=by
  unfold storeO mp
  cases d.cellsT g with
  | none => rfl
  | some vs =>
    simp only [Option.bind_some,st_other h]
    cases A[j]? with
    | none => rfl
    | some s =>
      cases s with
      | cells cs =>
        simp only [Option.bind_some]
        split
        · simp only [Option.map_some,st]; rw [List.set_comm _ _ (Ne.symm h)]
        · rfl
      | _ => rfl
theorem st_app1 (hb : AccOk b n ds) (hl : ds.length + 1 ≤ 1000000000) (hw : w ≤ 100000) (hk : k < A.length) :
    appendO n w (accD b A.length n ds) (.sl .full n [d]) (st (accA b A ds) k cs) = some (accD none A.length n (ds ++ [d]),st (accA none A (ds ++ [d])) k cs):=by
  rw [← st_accr hk,← st_accr hk]
  have:=app_acc1 (A:=st A k cs) (d:=d) hb hl hw
  rwa [qam] at this
theorem st_app1_1 (hb : AccOk b n ds) (hl : ds.length + 1 ≤ 1000000000) (hw : w ≤ 100000) (hk : k < A.length) :
    appendO n w (accD b (A.length + 1) n ds) (.sl .full n [d]) (st (accA b (A ++ [s0]) ds) k cs) = some (accD none (A.length + 1) n (ds ++ [d]),st (accA none (A ++ [s0]) (ds ++ [d])) k cs):=by
  have:=st_app1 (A:=A ++ [s0]) (cs:=cs) (d:=d) (k:=k) hb hl hw (by simp; omega)
  simpa using this
theorem stA_Kept (h : D.shutL A.length cs' = cs') : Kept (st A k cs) (st (accA b (A ++ L) ds) k cs') ↔ True:=by
  refine iff_true_intro ⟨by
    simp only [qam]
    have:=accA_len (b:=b) (A:=A ++ L) (ds:=ds)
    simp at this; omega,fun i hi => ?_⟩
  rw [qam] at hi
  by_cases e : i = k
  · subst e
    refine .inr ⟨.cells cs', ?_,by simp [qam,h]⟩
    have:=accA_len (b:=b) (A:=A ++ L) (ds:=ds)
    simp only [List.length_append] at this
    exact st_k cs' (by omega)
  · left
    rw [st_other e,st_other e,accA_get (by simp; omega),List.getElem?_append_left hi]
theorem stL_Kept (h : D.shutL A.length cs' = cs') : Kept (st A k cs) (st (A ++ L) k cs') ↔ True:=stA_Kept (b:=some 0) (ds:=[]) h
theorem stA_take (hk : k < A.length) : (st (accA b (A ++ L) ds) k cs).take A.length = st A k cs:=by
  cases b
  · simp only [accA]
    rw [List.append_assoc,← st_appr hk]
    exact st_takeL _ _ _ _
  · simp only [accA]
    rw [← st_appr hk]
    exact st_takeL _ _ _ _
theorem stL_take (hk : k < A.length) : (st (A ++ L) k cs).take A.length = st A k cs:=stA_take (b:=some 0) (ds:=[]) hk
theorem lenL (hk : k < A.length) : k < (A ++ L).length:=by simp; omega
theorem lenA (hk : k < A.length) : k < (accA b A ds).length:=Nat.lt_of_lt_of_le hk accA_len
theorem stL_load (hk : k < A.length) : loadO g n (.ref k off) (st (A ++ L) k cs) = ofCells g cs off n:=st_load (lenL hk)
theorem stL_store (hk : k < A.length) : storeO g n (.ref k off) d (st (A ++ L) k cs) = mp (layCells g n off cs d) fun cs' => st (A ++ L) k cs':=st_store (lenL hk)
theorem stL_appr {M : St} (hk : k < A.length) : st (A ++ L) k cs ++ M = st (A ++ (L ++ M)) k cs:=by rw [st_appr (lenL hk),List.append_assoc]
end
theorem idx_acc1 {b : Option Nat} {n c : Nat} {d : D} {g : Bool} {k : IntKind} (hb : AccOk b n [d]) : indexAddrO n g (accD b c n [d]) (.int k 0) = mp (d.cellsT g) .peek:=by
  cases b with
  | none => simp [accD,indexAddrO,D.int?,esOk,mp]
  | some e =>
    rcases hb with hb | hb | ⟨_,h2⟩
    · cases hb
    · cases hb; simp [accD,indexAddrO,D.int?,esOk,mp]
    · cases h2
theorem idx_lit1 {n : Nat} {d : D} {g : Bool} {k : IntKind} (o : Own) : indexAddrO n g (.sl o n [d]) (.int k 0) = mp (d.cellsT g) .peek:=by
  simp [indexAddrO,D.int?,esOk,mp]
theorem stLL2_Kept {A : St} {k : Nat} {cs cs' : List D} {s0 s1 t1 : Slot} (h : ∀ n,D.shutL n cs' = cs') (h1 : ∀ n,t1.shut n = t1) (hk : k < A.length) : Kept (st (A ++ [s0,s1]) k cs) (st (A ++ [s0,t1]) k cs') ↔ True:=by
  refine iff_true_intro ⟨by simp [qam],fun i hi => ?_⟩
  simp only [qam,List.length_append,List.length_cons,List.length_nil] at hi
  by_cases e : i = k
  · subst e
    exact .inr ⟨.cells cs',st_k cs' (by simp; omega),by simp [h]⟩
  · rw [st_other e,st_other e]
    rcases Nat.lt_or_ge i A.length with hlt | hge
    · left
      rw [List.getElem?_append_left hlt,List.getElem?_append_left hlt]
    · obtain ⟨j,rfl⟩ : ∃ j,i = A.length + j:=⟨i - A.length,by omega⟩
      rw [get_sh,get_sh]
      rcases (by omega : j = 0 ∨ j = 1) with rfl | rfl
      · exact .inl rfl
      · exact .inr ⟨t1,rfl,h1 _⟩
theorem stLL2_take {A : St} {k : Nat} {cs : List D} {s0 s1 : Slot} : (st (A ++ [s0,s1]) k cs).take (A.length + 2) = st (A ++ [s0,s1]) k cs:=List.take_of_length_le (by simp [qam])
end Go.Vm

/- The reference's reader of words: its small functions. -/
namespace Go.Vm.Rx
open Go Go.Proofs P
set_option maxRecDepth 10000
set_option maxHeartbeats 2000000
def rdC (l : List Word) (i o b a : Int) : List D:=[encL 3 (l.map encW),.int .i64 i,.int .i64 o,.int .i64 b,.int .i64 a]
theorem ws_shut (l : List Word) (n m : Nat) : (encL n (l.map encW)).shut m = encL n (l.map encW):=(encL_plain (plainWs l) n).shut m
theorem wordAt_lt {l : List Word} {i : Nat} (h : i < l.length) : wordAt l i = l[i].t:=by simp [wordAt,List.getElem?_eq_getElem h]
theorem wordAt_ge {l : List Word} {i : Nat} (h : ¬ i < l.length) : wordAt l i = []:=by simp [wordAt,List.getElem?_eq_none (Nat.le_of_not_lt h)]
theorem lay3 (k : IntKind) (x : Int) (s : Str) (o : Own) (n : Nat) (ds : List D) (a b c : D) : layCells true 3 0 [a,b,c] (.agg [.int k x,.str s,.sl o n ds]) = some [.int k x,.str s,.sl o n ds]:=by
  simp [layCells,D.cellsT,D.agg?,allCells,D.cell?,splice]
end Go.Vm.Rx
