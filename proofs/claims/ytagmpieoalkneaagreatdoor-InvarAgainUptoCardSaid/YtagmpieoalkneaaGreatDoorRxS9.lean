/- RxS8, RxS9 in one text. -/
import Derived.Test.YtagmpieoalkneaaGreatDoorRxS7
set_option linter.all false
/- What the program's reader of texts comes to. -/
namespace Go.Vm.Rx
open Go Go.Proofs P
set_option maxRecDepth 10000
set_option maxHeartbeats 1100000
theorem s106 (s p : Str) (B : St) : f106 (.str s) (.str p) (.int .i64 0) B =
    some (.ret (.fn (.func 135) [] [.ref (B.length + 1) 0,.ref B.length 0,.ref (B.length + 2) 0]),B ++ [.cells [.str s],.cells [.str p],.cells [.int .i64 0]]):=by
  unfold f106 n106; dsimp only
  refine qbc ?_
  have hb : ∀ s (B : St),boxO false (.str s) B = some (.ref B.length 0,B ++ [.cells [.str s]]):=fun _ _ => rfl
  have hb2 : ∀ (B : St),boxO false (.int .i64 0) B = some (.ref B.length 0,B ++ [.cells [.int .i64 0]]):=fun _ => rfl
  (repeat' first | (with_reducible apply qai) | ((conv => arg 2; arg 1; simp (disch:=first | omega | assumption) only [Nat.zero_add,List.length_append,List.length_cons,List.length_nil,app_one,app_nil',qbx,Nat.reduceAdd,hb,hb2]); (with_reducible apply qab)))
  ((try conv => arg 2; simp only [leave_keep]); refine qak ?_)
  simp
theorem s60 (s p : Str) (B : St) : f60 (.str s) (.str p) B =
    some (.ret (.fn (.func 135) [] [.ref (B.length + 1) 0,.ref B.length 0,.ref (B.length + 2) 0]),B ++ [.cells [.str s],.cells [.str p],.cells [.int .i64 0]]):=by
  unfold f60 n60; dsimp only
  refine qbc ?_
  (repeat' first | (with_reducible first | apply qat | apply qai) | ((conv => arg 2; arg 1; simp (disch:=first | omega | assumption) only [qah,qap,r106,s106]); (with_reducible apply qab)))
  ((try conv => arg 2; simp only [leave_keep]); refine qak ?_)
  rfl
theorem seq87 (cap : List D) (k : Nat) (B : St) : seqCall Tryz.prog (Run Tryz.prog rxA) (.fn (.func 135) [] cap) k B = Run Tryz.prog rxA 135 (.yld false k :: cap) B:=by
  unfold seqCall
  have h : (Tryz.prog.funcs[135]?).any fnOk = true:=by kernel_rfl
  simp only [h]
  rfl
theorem s135 (A : St) (s : Str) (hs : s.length ≤ 100000000) (x : Except (Int × Int) (List (List Word))) (hx : rowsOf 1 ((splitNL s).1 :: (splitNL s).2) = some x) :
    Tot (walkOut A [] x) (f135 (.yld false (A.length + 11)) (.ref (A.length + 8) 0) (.ref (A.length + 7) 0) (.ref (A.length + 9) 0) (T A 0 [] s .ready)):=by
  have hlo:=s135_loop (s0:=s) round_ok A (s.length + 1) s 0 [] x (by omega) (by simp; omega) (by omega) (by omega) hx
  have hlen1 : lenStrO (.str [10]) = some (.int .i64 1):=rfl
  unfold f135 n135; dsimp only
  (repeat' first | (with_reducible first | apply qa4 | apply qaa (b:=false) | apply qao | (apply tot_eql_f; omega)) | ((conv => arg 2; arg 1; simp (disch:=first | omega | assumption) only [T_ld8,hlen1]); (with_reducible apply qab)))
  exact hlo
theorem Kept4 {A L M : St} {s0 s1 s2 s3 t0 t1 t2 t3 : Slot} (h0 : ∀ n,t0.shut n = t0) (h1 : ∀ n,t1.shut n = t1) (h2 : ∀ n,t2.shut n = t2) (h3 : ∀ n,t3.shut n = t3) :
    Kept (A ++ (s0 :: s1 :: s2 :: s3 :: L)) (A ++ (t0 :: t1 :: t2 :: t3 :: (L ++ M))) ↔ True:=by
  refine iff_true_intro (Kept_tail (by simp) fun i hi => ?_)
  match i,hi with
  | 0,_ => exact .inr ⟨_,rfl,h0 _⟩
  | 1,_ => exact .inr ⟨_,rfl,h1 _⟩
  | 2,_ => exact .inr ⟨_,rfl,h2 _⟩
  | 3,_ => exact .inr ⟨_,rfl,h3 _⟩
  | i + 4,hi =>
    left
    simp only [List.length_cons] at hi
    simp only [List.getElem?_cons_succ]
    rw [List.getElem?_append_left (by omega)]
theorem take4 {A L M : St} {s0 s1 s2 s3 t0 t1 t2 t3 : Slot} : (A ++ (t0 :: t1 :: t2 :: t3 :: (L ++ M))).take (A ++ (s0 :: s1 :: s2 :: s3 :: L)).length = A ++ (t0 :: t1 :: t2 :: t3 :: L):=by
  have e : A ++ (t0 :: t1 :: t2 :: t3 :: (L ++ M)) = (A ++ (t0 :: t1 :: t2 :: t3 :: L)) ++ M:=by simp
  rw [e,List.take_append_of_le_length (by simp),List.take_of_length_le (by simp)]
theorem take4' {A L M : St} {t0 t1 t2 t3 : Slot} : (A ++ (t0 :: t1 :: t2 :: t3 :: (L ++ M))).take (A.length + (L.length + 1 + 1 + 1 + 1)) = A ++ (t0 :: t1 :: t2 :: t3 :: L):=by
  have:=take4 (A:=A) (L:=L) (M:=M) (s0:=.dead) (s1:=.dead) (s2:=.dead) (s3:=.dead) (t0:=t0) (t1:=t1) (t2:=t2) (t3:=t3)
  simpa [List.length_append,Nat.add_assoc] using this
theorem ifc_nil (t : TypeId) (d : D) : binO .eql 1 true (.iface t d) (.val .nilIface) = some (.bool false):=rfl
theorem dc59p (A L : St) (o0 o1 o2 o3 : D) (x y : Int) : Dcall Tryz.prog rxA (.fn (.func 59) [] [.ref A.length 0,.ref (A.length + 1) 0,.ref (A.length + 2) 0,.ref (A.length + 3) 0]) [] (some (.iface 101 (.agg [.int .i64 x,.int .i64 y])))
      (A ++ (.cells [o0] :: .cells [o1] :: .cells [o2] :: .cells [o3] :: L)) =
    some (none,A ++ (.cells [.sl .full 0 []] :: .cells [.int .i64 x] :: .cells [.int .i64 y] :: .cells [.int .i64 30] :: L)):=by
  rw [rd59p]
  unfold d59p nd59p; dsimp only
  have has : ∀ z d,assertV z (.iface 101 d) 101 true = some (.tup [d,.bool true]):=fun _ _ => rfl
  have hk:=fun M => Kept4 (A:=A) (L:=L) (M:=M) (s0:=.cells [o0]) (s1:=.cells [o1]) (s2:=.cells [o2]) (s3:=.cells [o3]) (t0:=.cells [.sl .full 0 []]) (t1:=.cells [.int .i64 x]) (t2:=.cells [.int .i64 y]) (t3:=.cells [.int .i64 30]) (fun n => by simp) (fun n => by simp) (fun n => by simp) (fun n => by simp)
  refine qbc ?_
  (repeat' first | (with_reducible first | apply qa4 | apply tp_gs0 | apply tp_gs1 | apply tp_gk | apply qaa (b:=false) | apply qao) | ((conv => arg 2; arg 1; simp (disch:=first | omega | assumption) only [qaf,qa5,ofCellsS,Nat.zero_add,Nat.add_zero,qbo,lay_int,lay_sl,List.length_append,List.length_cons,un_not,Bool.not_true,qa0,app_one,qbx,ld_sh,qbp,ldc0,ldcS,sto_sh,sto_sh0,stoc0,stocS,ext0,extS,lay_ii,sameAd_ref,get_sh,List.getElem?_cons_succ,ifc_nil,has,hk]); (with_reducible first | apply qab | apply qbi)))
  conv => arg 2; simp (disch:=first | omega | assumption) only [List.length_append,List.length_cons,take4']
  exact qak rfl
theorem dc59n (a b c d : D) (S : St) : Dcall Tryz.prog rxA (.fn (.func 59) [] [a,b,c,d]) [] none S = some (none,S):=by
  rw [rd59n]
  unfold d59n nd59n; dsimp only
  have hn : negIf false true = .bool true:=rfl
  refine qbc ?_
  skip
  ((try conv => arg 2; simp only [bn_some,qac,qal,qaf,List.take_length,Nat.zero_add,Nat.add_zero,qbo,mL_gk,sto_sh0,stoc0]); refine qak ?_)
  rfl
theorem tok_rows (A : St) (c0 c1 c2 c3 c4 : Slot) : tokO [(0,1)] (.ref (A.length + 5) 0) (A ++ [c0,c1,c2,c3,c4,.cells [.sl .full 0 []]]) =
    some (.ref (A.length + 5) 0,A ++ [c0,c1,c2,c3,c4,.cells [.sl (.own (A.length + 6) 0) 1 []],.tok 0]):=by
  unfold tokO tokD
  simp only [get_sh]
  simp [tokCells,tokCell,show Nat.ble 1000000 1 = false from rfl,show Nat.ble 1000000 3 = false from rfl]
theorem s23 (s : Str) (hs : s.length ≤ 1048576) (x : Except (Int × Int) (List (List Word))) (hx : rowsOf 1 ((splitNL s).1 :: (splitNL s).2) = some x) (A : St) : f23 (.str s) A = some (.ret (linesRes [] x),A):=by
  have hwalk:=s135 A s (by omega) x hx
  have hstart : A ++ [Slot.cells [D.sl Own.full 0 []],Slot.cells [D.int .i64 0],Slot.cells [D.int .i64 0],Slot.cells [D.int .i64 0],Slot.cells [D.int .i64 0],Slot.cells [D.sl (.own (A.length + 6) 0) 1 []],Slot.tok 0] ++
      [Slot.cells [D.str s],Slot.cells [D.str [10]],Slot.cells [D.int .i64 0]] ++
      [Slot.dfb,Slot.loop 23 [D.any,D.any,D.any,D.any,D.any,D.any,D.ref (A.length + 4) 0,D.ref (A.length + 5) 0,D.any,D.any,D.any,D.any,D.any,D.any,D.any,D.any,D.any,D.any,
        D.any,D.any,D.any,D.any,D.any,D.any,D.any,D.any,D.any,D.any,D.any,D.any,D.any,D.any,D.any,D.any,D.any,D.any,D.any,D.any,D.any,D.any] (cAt Tryz.prog 23 [0,1,0,1,1,1,1,1]) RSt.ready] = T A 0 [] s .ready:=by
    rw [List.append_assoc,List.append_assoc]
    rfl
  have hyc : ∀ k,(D.yld false k).canon = .yld false k:=fun _ => rfl
  unfold f23 n23; dsimp only
  try dsimp only []
  refine qbc ?_
  (repeat' first | (with_reducible first | apply qa4 | apply qat | apply qaa (b:=false) | apply qao | (apply tot_gtr_f; omega)) | ((conv => arg 2; arg 1; simp (disch:=first | omega | assumption) only [lenStr_str,Nat.zero_add,qbo,lay_int,List.length_append,List.length_cons,List.length_nil,qa0,qap,app_one,app_nil',qbx,sto_sh,stoc0,stocS,Nat.reduceAdd,tok_rows,r60,s60,Nat.add_assoc]); (with_reducible apply qab)))
  conv => arg 2; arg 1; simp (disch:=first | omega | assumption) only [Nat.zero_add,List.length_append,List.length_cons,List.length_nil,qay,Nat.reduceAdd,seq87,r135,Nat.add_assoc,hstart,hyc]
  refine tot_bn hwalk fun r hr => ?_
  have hset : ∀ (L : St) (i : Nat) (x : Slot),(A ++ L).set (A.length + i) x = A ++ L.set i x:=fun L i x => set_sh A L i x
  cases x with
  | error a =>
    obtain ⟨n',rows',s',rfl⟩:=hr
    have hdf : (T A n' rows' s' .busy)[A.length + 10]? = some .dfb:=get_sh _ _ _
    have hm:=fun dc res r p => leaves_mark dc res (A.length + 10) [] r p (T A n' rows' s' .busy) hdf
    obtain ⟨M,hM⟩ : ∃ M,(T A n' rows' s' .busy).set (A.length + 10) .dead = A ++ (.cells [.sl .full 0 []] :: .cells [.int .i64 0] :: .cells [.int .i64 0] :: .cells [.int .i64 0] :: M):=⟨_,by unfold T; rw [set_sh]; rfl⟩
    (repeat' first | (with_reducible first | apply tp_pan | apply qai) | ((conv => arg 2; arg 1; simp (disch:=first | omega | assumption) only [bn_some,Option.map_some,Option.bind_some,qar,leaves_cons,qa5,Nat.zero_add,List.length_append,List.length_cons,List.length_nil,ld_sh,qbp,ldc0,ldcS,Nat.reduceAdd,hm,Nat.add_assoc,hM,dc59p]); (with_reducible apply qab)))
    ((try conv => arg 2; simp (disch:=first | omega | assumption) only [qac,qaj,shut_sl,qbv,qax,qau,own_full,qaz,qae,qah,qbq,qav,qas,canon_nil,qad,qag,List.take_left']); refine qak ?_)
    rfl
  | ok l =>
    obtain ⟨n',s',rfl⟩:=hr
    have hend:=end_ready (T_ready (A:=A) (n:=n') (rows:=[] ++ l) (s:=s'))
    have hld7 : loadO false 1 (.ref (A.length + 5) 0) ((T A n' ([] ++ l) s' .ready).set (A.length + 11) .dead) = some (.sl (.own (A.length + 6) 0) 1 (l.map encRow)):=by
      unfold T; rw [set_sh,ld_sh]; rfl
    obtain ⟨M,hM⟩ : ∃ M,(T A n' ([] ++ l) s' .ready).set (A.length + 11) .dead = A ++ (.cells [.sl .full 0 []] :: .cells [.int .i64 0] :: .cells [.int .i64 0] :: .cells [.int .i64 0] :: M) ∧ M[6]? = some .dfb:=⟨_,by unfold T; rw [set_sh]; rfl,rfl⟩
    obtain ⟨hM,hM6⟩:=hM
    have hdf : ∀ a b c d : Slot,(A ++ (a :: b :: c :: d :: M))[A.length + 10]? = some .dfb:=fun a b c d => by rw [get_sh]; exact hM6
    have hm:=fun dc res r p a b c d => leaves_mark dc res (A.length + 10) [] r p (A ++ (a :: b :: c :: d :: M)) (hdf a b c d)
    have hs10 : ∀ a b c d x : Slot,(A ++ (a :: b :: c :: d :: M)).set (A.length + 10) x = A ++ (a :: b :: c :: d :: M.set 6 x):=fun a b c d x => by rw [set_sh]; rfl
    rw [hM] at hend hld7
    (repeat' first | (with_reducible first | apply qa4 | apply qat | apply qai | apply tp_exn) | ((conv => arg 2; arg 1; simp (disch:=first | omega | assumption) only [bn_some,Option.map_some,Option.bind_some,qar,leaves_cons,qa5,Nat.zero_add,lay_int,lay_sl,List.length_append,List.length_cons,List.length_nil,qa0,ld_sh,qbp,ldc0,ldcS,sto_sh,sto_sh0,stoc0,stocS,Nat.reduceAdd,hend,Nat.add_assoc,hld7,hm,hs10,dc59n]); (with_reducible apply qab)))
    ((try conv => arg 2; simp (disch:=first | omega | assumption) only [qac,qaj,shut_sl,qbv,qax,qau,own_new,qaz,qae,qah,qbq,qav,qas,qad,qag,List.take_left']); refine qak ?_)
    simp only [(plainRows l).shut,canon_sl (plainRows l)]
    rfl
theorem s23_long (s : Str) (hs : ¬ s.length ≤ 1048576) (hs2 : s.length < 4611686018427387904) (A : St) : f23 (.str s) A = some (.ret (.tup [.sl .sh 0 [],.int .i64 0,.int .i64 0,.int .i64 2]),A):=by
  unfold f23 n23; dsimp only
  refine qbc ?_
  (repeat' first | (with_reducible first | apply qab | apply tp_bnbn | apply qa4 | apply qai | apply qaa (b:=true) | apply qaq | (apply tot_gtr_t; omega)) | ((conv => arg 2; arg 1; simp only [lenStr_str,qa5,Nat.zero_add,qbo,lay_int,lay_sl,List.length_append,List.length_cons,List.length_nil,qa0,app_one,app_nil',qbx,ld_sh,qbp,ldc0,ldcS,sto_sh,sto_sh0,stoc0,stocS,Nat.reduceAdd]); (with_reducible apply qab)))
  all_goals (((try conv => arg 2; simp (disch:=first | omega | assumption) only [qac,qaj,shut_sl,qbv,qax,qau,own_full,qaz,qae,qah,qbq,qav,qas,canon_nil,qad,qag,List.take_left']); refine qak ?_); rfl)
end Go.Vm.Rx

/- What the reference's tests of expressions come to. -/
namespace Go.Vm.Rx
open Go Go.Proofs P
set_option maxRecDepth 10000
set_option maxHeartbeats 1100000
mutual
def encRx : Rx → D | .mk op nm ks => .agg [.int .i64 op,.str nm,encL 3 (encRxs ks)]
def encRxs : List Rx → List D | [] => [] | r :: rs => encRx r :: encRxs rs
end
theorem encRxs_eq : ∀ l,encRxs l = l.map encRx
  | [] => rfl
  | r :: rs => by simp [encRxs,encRxs_eq rs]
theorem encRx_eq (r : Rx) : encRx r = .agg [.int .i64 r.op,.str r.nm,encL 3 (r.ks.map encRx)]:=by
  cases r with
  | mk op nm ks => rw [encRx,encRxs_eq]; rfl
mutual
theorem plainRx : ∀ r,Plain (encRx r)
  | .mk op nm ks => by
    have h:=encL_plain (plainRxs0 ks) 3
    refine ⟨fun n => ?_, ?_⟩
    · rw [encRx]; simp [h.shut]
    · rw [encRx]; simp [qby,qas,qav,h.canon]
theorem plainRxs0 : ∀ l,PlainL (encRxs l)
  | [] => ⟨fun _ => rfl,rfl⟩
  | r :: rs => ⟨fun n => by rw [encRxs,qau,(plainRx r).shut,(plainRxs0 rs).shut],by rw [encRxs,qas,(plainRx r).canon,(plainRxs0 rs).canon]⟩
end
theorem plainRxs (l : List Rx) : PlainL (l.map encRx):=PlainL.map plainRx l
theorem rx_fold (r : Rx) : D.agg [.int .i64 r.op,.str r.nm,encL 3 (r.ks.map encRx)] = encRx r:=(encRx_eq r).symm
theorem rx_cell (r : Rx) : (encRx r).cellsT true = some [.int .i64 r.op,.str r.nm,encL 3 (r.ks.map encRx)]:=by rw [encRx_eq]; rfl
theorem rx_box (r : Rx) (A : St) : boxO true (encRx r) A = some (.ref A.length 0,A ++ [.cells [.int .i64 r.op,.str r.nm,encL 3 (r.ks.map encRx)]]):=by rw [encRx_eq]; rfl
theorem rx_canon (r : Rx) : (encRx r).canon = encRx r:=(plainRx r).canon
theorem rx_shut (r : Rx) (n : Nat) : (encRx r).shut n = encRx r:=(plainRx r).shut n
theorem rxs_canon (l : List Rx) (n : Nat) : (encL n (l.map encRx)).canon = encL n (l.map encRx):=(encL_plain (plainRxs l) n).canon
theorem rxs_shut (l : List Rx) (n m : Nat) : (encL n (l.map encRx)).shut m = encL n (l.map encRx):=(encL_plain (plainRxs l) n).shut m
theorem drop_mem {α : Type} {l t : List α} {i : Nat} {x : α} (h : l.drop i = x :: t) : x ∈ l:=List.mem_of_mem_drop (i:=i) (by rw [h]; simp)

theorem nodeOk_int (op : Int) (nm : Str) (ks : List Rx) : nodeOk op nm ks =
    if op = 1 ∨ op = 2 then isName nm && decide ((ks.length : Int) = 0)
    else if op = 3 then decide (nm = []) && decide ((ks.length : Int) = 0)
    else if op = 4 then decide (nm = []) && !decide ((ks.length : Int) = 1) && !hasOp 4 ks
    else if op = 5 then decide (nm = []) && decide ((ks.length : Int) ≥ 2) && !hasOp 5 ks
    else if op = 6 ∨ op = 7 ∨ op = 8 then decide (nm = []) && decide ((ks.length : Int) = 1)
    else false:=by
  have e0 : (ks.length == 0) = decide ((ks.length : Int) = 0):=by rw [Bool.eq_iff_iff]; simp
  have e1 : (ks.length == 1) = decide ((ks.length : Int) = 1):=by rw [Bool.eq_iff_iff]; simp; omega
  have e2 : (ks.length != 1) = !decide ((ks.length : Int) = 1):=by unfold bne; rw [e1]
  have e3 : decide (2 ≤ ks.length) = decide ((ks.length : Int) ≥ 2):=by rw [Bool.eq_iff_iff]; simp; omega
  have e4 : (nm == []) = decide (nm = []):=by rw [Bool.eq_iff_iff]; simp
  unfold nodeOk
  rw [e0,e1,e2,e3,e4]
end Go.Vm.Rx
