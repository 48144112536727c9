/- RxS23, VmSt3, RxS24, RxS25 in one text. -/
import Derived.Test.YtagmpieoalkneaaGreatDoorRxS22
import Derived.Test.YtagmpieoalkneaaGreatDoorRxS13
set_option linter.all false
/- The program's reader of words: its small functions. -/
namespace Go.Vm.Rx
open Go Go.Proofs P
set_option maxRecDepth 10000
set_option maxHeartbeats 1100000
def psC (l : List Word) (i o : Int) : List D:=[encL 3 (l.map encW),.int .i64 i,.int .i64 o]
theorem psC_shut (l : List Word) (i o : Int) (n : Nat) : D.shutL n (psC l i o) = psC l i o:=by
  have:=(encL_plain (plainWs l) 3).shut n
  simp [psC,D.shutL,this,D.shut]
section
variable (l : List Word) (i o x : Int)
theorem psl1 : ofCells false (psC l i o) 1 1 = some (.int .i64 i):=rfl
theorem psl2 : ofCells false (psC l i o) 2 1 = some (.int .i64 o):=rfl
theorem pss1 : layCells false 1 1 (psC l i o) (.int .i64 x) = some (psC l x o):=rfl
theorem pss2 : layCells false 1 2 (psC l i o) (.int .i64 x) = some (psC l i x):=rfl
end
theorem s172 (A : St) (k : Nat) (l : List Word) (i : Nat) (o : Int) (hk : k < A.length) (hl : l.length ≤ 100000000) (hi : i ≤ 200000000) :
    f172 (.ref k 0) (st A k (psC l i o)) = some (.ret (.str (wordAt l i)),st A k (psC l i o)):=by
  have hix : i < l.length → indexAddrO 3 true (encL 3 (l.map encW)) (.int .i64 (i : Int)) = some (.peek (cellsW l[i]!)):=fun h => by
    rw [idx_map h,cellW,getElem!_pos l i h]; rfl
  unfold f172 n172 psC; dsimp only
  refine qbc ?_
  by_cases h : i < l.length
  · have hx:=hix h
    unfold cellsW at hx
    (repeat' first | (with_reducible first | apply qai | apply qaa (b:=true) | apply qaq | (apply qa1; omega)) | ((conv => arg 2; arg 1; simp (disch:=first | omega | assumption) only [qan,qaf,fieldAddr_peek,qbg,qa5,ofCellsS,List.drop_zero,Nat.zero_add,Nat.add_zero,qbl,st_load,List.length_map,hx]); (with_reducible apply qab)))
    ((try conv => arg 2; simp only [qac,qbs,qal,qae,qap,qad,qag,qam,st_take]); refine qak ?_)
    rw [wordAt_lt h,getElem!_pos l i h]
  · (repeat' first | (with_reducible first | apply qai | apply qaa (b:=false) | apply qao | (apply qba; omega)) | ((conv => arg 2; arg 1; simp (disch:=first | omega | assumption) only [qan,qaf,qa5,ofCellsS,Nat.zero_add,Nat.add_zero,qbl,st_load,List.length_map]); (with_reducible apply qab)))
    ((try conv => arg 2; simp only [qac,qbs,qal,qae,qap,qad,qag,qam,st_take]); refine qak ?_)
    rw [wordAt_ge h]
theorem s114 (A : St) (k : Nat) (l : List Word) (i o e : Int) (hk : k < A.length) :
    f114 (.ref k 0) (.int .i64 e) (st A k (psC l i o)) = some (.pan (.iface 164 (.agg [.int .i64 i,.int .i64 e])),st A k (psC l i o)):=by
  have hla : ∀ a b x,layCells false 1 0 [a,b] (D.int .i64 x) = some [.int .i64 x,b]:=fun _ _ _ => rfl
  have hlb : ∀ a b x,layCells false 1 1 [a,b] (D.int .i64 x) = some [a,.int .i64 x]:=fun _ _ _ => rfl
  unfold f114 n114 psC; dsimp only
  refine qbc ?_
  (repeat' first | (with_reducible first | apply qab | apply tp_bnbn | apply qa4) | ((conv => arg 2; arg 1; simp (disch:=first | omega | assumption) only [qan,qaf,qa5,ofCellsS,Nat.zero_add,st_load,hla,hlb]); (with_reducible apply qab)))
  ((try conv => arg 2; simp only [qac,qbv,qax,qal,qae,qbh,leaveM_mL,qbq,qav,qad,qbe,qag,qam,st_take]); refine qak ?_)
  rfl
theorem stS_Kept {A : St} {k : Nat} {cs cs' : List D} (h : D.shutL A.length cs' = cs') : Kept (st A k cs) (st A k cs') ↔ True:=by
  have:=stL_Kept (A:=A) (k:=k) (cs:=cs) (cs':=cs') (L:=[]) h
  simpa using this
def idxStr (w : Str) : List Str → Int → Int
  | [],_ => -1
  | x :: r,i => if w = x then i else idxStr w r (i + 1)
theorem idxStr_ge (w : Str) : ∀ (ws : List Str) (i : Int),0 ≤ i → (0 ≤ idxStr w ws i ↔ w ∈ ws)
  | [],i,h => by simp [idxStr]
  | x :: r,i,h => by
    unfold idxStr
    split
    · rename_i e; simp [e,h]
    · rename_i e
      rw [idxStr_ge w r (i + 1) (by omega)]
      simp [e]
theorem s162_loop (A : St) (w : Str) (hwl : w.length ≤ 100000000) (ws : List Str) (hl : ws.length ≤ 100000) : ∀ (t : List Str) (i : Nat),ws.drop i = t → i ≤ ws.length →
    LP Tryz.prog rxA 162 [0,1,0,1] [A] (Env.mk (sp [(0,encL 1 (ws.map .str)),(0,.str w),(5,.int .i64 (ws.length : Nat)),(0,.int .i64 (i : Nat))] 10) []) A = some (.ret (.int .i64 (idxStr w t i)),A):=by
  intro t
  induction t with
  | nil =>
    intro i ht hi
    have h1:=drop_len ht
    refine qbc (qbj (q162_0 ..) ?_)
    unfold n162_0; dsimp only
    (repeat' first | (with_reducible first | apply qai | apply qaa (b:=false) | apply qao) | ((conv => arg 2; arg 1; simp only [Option.map_some,qar,qa6,qbd,qbb]); (with_reducible first | apply qab | (apply qba; omega))))
    all_goals (((try conv => arg 2; simp only [qac,qaj,qal,qae,List.take_length,qah,qad,qag]); refine qak ?_); rfl)
  | cons x t ih =>
    intro i ht hi
    have h1:=drop_lt ht
    have hx:=idx_drop (f:=D.str) ht 1 false .i64
    have hsh : ∀ n,(encL 1 (ws.map .str)).shut n = encL 1 (ws.map .str):=fun n => (encL_plain (PlainL.map (fun s => ⟨fun _ => rfl,rfl⟩) ws) 1).shut n
    refine qbc (qbj (q162_0 ..) ?_)
    unfold n162_0; dsimp only
    unfold idxStr
    by_cases he : w = x
    · rw [if_pos he]
      (repeat' first | (with_reducible first | apply qa4 | apply qai | apply qaa (b:=true) | apply qaq) | ((conv => arg 2; arg 1; simp (disch:=first | omega | assumption) only [Option.map_some,qar,qbg,qa5,qa6,qbd,qbb,qa0,cell_str,hx]); (with_reducible first | apply qab | (apply qa1; omega) | (apply tot_seql_t; first | assumption | with_reducible rfl))))
      all_goals (((try conv => arg 2; simp only [qac,qaj,qal,qae,List.take_length,qah,qad,qag]); refine qak ?_); rfl)
    · rw [if_neg he]
      (repeat' first | (with_reducible first | apply qa4 | apply tp_gk | apply qaa (b:=true) | apply qaa (b:=false) | apply qaq | apply qao) | ((conv => arg 2; arg 1; simp (disch:=first | omega | assumption) only [qa7,qa2,qal,qbg,qa5,qa6,qbd,qbb,qa0,cell_str,hx]); (with_reducible first | apply qab | apply qbi | (apply qa1; omega) | (apply qbz; first | assumption | decide | exact List.cons_ne_nil _ _))))
      (refine qa8 ?_; (conv => lhs; simp only [qaj,qbr,qbs,List.take_length,List.map_nil,qa6,qbd,qbb]); rw [hsh]; have:=ih (i + 1) (qbt ht) (by omega); simp only [Int.natCast_add,Int.natCast_one] at this; exact this)
theorem s162 (A : St) (w : Str) (hwl : w.length ≤ 100000000) (ws : List Str) (hl : ws.length ≤ 100000) :
    f162 (encL 1 (ws.map .str)) (.str w) A = some (.ret (.int .i64 (idxStr w ws 0)),A):=by
  have:=s162_loop A w hwl ws hl ws 0 rfl (by omega)
  unfold f162 n162; dsimp only
  refine qbc ?_
  (repeat' first | ((conv => arg 2; arg 1; simp only [qbl,List.length_map]); (with_reducible apply qab)))
  (refine qa8 ?_; (conv => lhs; simp only []); exact this)
theorem s128 (A : St) (w : Str) (hwl : w.length ≤ 100000000) (ws : List Str) (hl : ws.length ≤ 100000) :
    f128 (encL 1 (ws.map .str)) (.str w) A = some (.ret (.bool (decide (w ∈ ws))),A):=by
  have h1:=s162 A w hwl ws hl
  have h2:=idxStr_ge w ws 0 (by omega)
  have hcn : (encL 1 (ws.map .str)).canon = encL 1 (ws.map .str):=(encL_plain (PlainL.map (fun s => ⟨fun _ => rfl,rfl⟩) ws) 1).canon
  unfold f128 n128; dsimp only
  refine qbc ?_
  by_cases h : w ∈ ws
  · have h3:=h2.2 h
    (repeat' first | (with_reducible first | apply qat | apply qai | (apply tot_geq_t; omega)) | ((conv => arg 2; arg 1; simp (disch:=first | omega | assumption) only [qap,r162,hcn,h1]); (with_reducible apply qab)))
    ((try conv => arg 2; simp only [qac,qa9,qal,qae,List.take_length,qa3,qad,qag]); refine qak ?_)
    simp [h,h3]
  · have h3 : ¬ 0 ≤ idxStr w ws 0:=fun e => h (h2.1 e)
    (repeat' first | (with_reducible first | apply qat | apply qai | (apply tot_geq_f; omega)) | ((conv => arg 2; arg 1; simp (disch:=first | omega | assumption) only [qap,r162,hcn,h1]); (with_reducible apply qab)))
    ((try conv => arg 2; simp only [qac,qa9,qal,qae,List.take_length,qa3,qad,qag]); refine qak ?_)
    simp [h,h3]
theorem s146 (A : St) (k : Nat) (l : List Word) (i : Nat) (o : Int) (ws : List Str) (hk : k < A.length) (hl : l.length ≤ 100000000) (hi : i ≤ 200000000) (hwl : (wordAt l i).length ≤ 100000000) (hws : ws.length ≤ 100000) :
    f146 (.ref k 0) (encL 1 (ws.map .str)) (st A k (psC l i o)) = some (if wordAt l i ≠ [] ∧ wordAt l i ∈ ws then (.ret (.tup [.str (wordAt l i),.bool true]),st A k (psC l ((i : Int) + 1) o)) else (.ret (.tup [.str [],.bool false]),st A k (psC l i o))):=by
  have h1:=s172 A k l i o hk hl hi
  have h2:=fun A => s128 A (wordAt l i) hwl ws hws
  have hcn : (encL 1 (ws.map .str)).canon = encL 1 (ws.map .str):=(encL_plain (PlainL.map (fun s => ⟨fun _ => rfl,rfl⟩) ws) 1).canon
  have hkp:=stS_Kept (A:=A) (k:=k) (cs:=psC l i o) (cs':=psC l ((i : Int) + 1) o) (psC_shut _ _ _ _)
  unfold f146 n146; dsimp only
  refine qbc ?_
  by_cases h : wordAt l i = []
  · rw [if_neg (by simp [h])]
    rw [h] at h1
    (repeat' first | (with_reducible first | apply qab | apply qa4 | apply qbn | apply qat | apply qai | apply qaw (b:=true) | apply qaa (b:=true) | apply qaq | apply tot_iftf | (apply tot_seql_t; first | assumption | with_reducible rfl)) | ((conv => arg 2; arg 1; simp (disch:=first | omega | assumption) only [qbm,qay,r172,h1]); (with_reducible first | apply qab | apply qaa (b:=true))))
    ((try conv => arg 2; simp only [qac,qa9,qbs,qbv,qax,qau,qal,qae,qa3,qap,qbq,qav,qas,qad,qag,qam,st_take]); refine qak ?_)
    rfl
  · by_cases hm : wordAt l i ∈ ws
    · rw [if_pos ⟨h,hm⟩]
      simp only [decide_eq_true hm] at h2
      (repeat' first | (with_reducible first | apply qab | apply qa4 | apply qbn | apply qat | apply qai | apply qaw (b:=false) | apply qaa (b:=false) | apply qao | apply tot_ifff | (apply qbz; first | assumption | decide | exact List.cons_ne_nil _ _)) | ((conv => arg 2; arg 1; simp (disch:=first | omega | assumption) only [qbf,qa7,qa2,qan,qaf,Nat.zero_add,un_not,Bool.not_true,qa0,qap,qay,st_load,st_store,r172,h1,r128,hcn,h2,psl1,pss1]); (with_reducible first | apply qab | apply qaa (b:=false))))
      ((try conv => arg 2; simp (disch:=first | omega | assumption) only [qac,qa9,qbs,qbv,qax,qau,qae,qa3,qap,qbq,qav,qas,qad,qag,qam,st_take,hkp]); refine qak ?_)
      rfl
    · rw [if_neg (fun e => hm e.2)]
      simp only [decide_eq_false hm] at h2
      (repeat' first | (with_reducible first | apply qab | apply qa4 | apply qbn | apply qat | apply qai | apply qaw (b:=false) | apply qaa (b:=false) | apply qaq | apply tot_ifff | (apply qbz; first | assumption | decide | exact List.cons_ne_nil _ _)) | ((conv => arg 2; arg 1; simp (disch:=first | omega | assumption) only [qbf,un_not,Bool.not_false,qap,qay,r172,h1,r128,hcn,h2]); (with_reducible first | apply qab | apply qaa (b:=true))))
      ((try conv => arg 2; simp only [qac,qa9,qbs,qbv,qax,qau,qal,qae,qa3,qap,qbq,qav,qas,qad,qag,qam,st_take]); refine qak ?_)
      rfl
theorem s205 (A : St) (k : Nat) (l : List Word) (i : Nat) (o : Int) (hk : k < A.length) (hl : l.length ≤ 100000000) (hi : i ≤ 200000000) (hwl : (wordAt l i).length ≤ 100000000) :
    f205 (.ref k 0) (st A k (psC l i o)) = some (if isName (wordAt l i) then (.ret (.str (wordAt l i)),st A k (psC l ((i : Int) + 1) o)) else (.pan (.iface 164 (.agg [.int .i64 i,.int .i64 90])),st A k (psC l i o))):=by
  have h1:=s172 A k l i o hk hl hi
  have h2:=fun A => s34 (wordAt l i) (by omega) A
  have h3:=s114 A k l i o 90 hk
  have hkp:=stS_Kept (A:=A) (k:=k) (cs:=psC l i o) (cs':=psC l ((i : Int) + 1) o) (psC_shut _ _ _ _)
  unfold f205 n205; dsimp only
  refine qbc ?_
  cases h : isName (wordAt l i)
  · rw [h] at h2
    (repeat' first | (with_reducible first | (apply qbu; intro hkk hke) | apply qat | apply tp_pan | apply qai | apply qaa (b:=true) | apply qaq) | ((conv => arg 2; arg 1; simp (disch:=first | omega | assumption) only [qan,qaf,Nat.add_zero,un_not,Bool.not_false,qah,qap,qay,r172,h1,r34,h2,r114,h3]); (with_reducible apply qab)))
    ((try conv => arg 2; simp only [qac,qaj,shut_agg,shut_iface,qax,qau,qal,qbh,qah,qby,canon_iface,qav,qas,qbe,qag,qam,st_take]); refine qak ?_)
    rfl
  · rw [h] at h2
    (repeat' first | (with_reducible first | (apply qbu; intro hkk hke) | (apply tot_jk; · assumption) | apply qa4 | apply qat | apply qai | apply qaa (b:=false) | apply qao) | ((conv => arg 2; arg 1; simp (disch:=first | omega | assumption) only [Option.map_some,qa7,qa2,qar,qan,qaf,Nat.zero_add,Nat.add_zero,un_not,Bool.not_true,qa0,qap,qay,st_load,st_store,eg_0,eg_S,r172,h1,r34,h2,psl1,pss1]); (with_reducible apply qab)))
    ((try conv => arg 2; simp (disch:=first | omega | assumption) only [qac,qbs,qae,qap,qad,qag,qam,st_take,hkp]); refine qak ?_)
    rfl
end Go.Vm.Rx

/- A row that grows in a store that grows. -/
namespace Go.Vm
open Go
structure Grow (A : St) (s0 : Slot) (n : Nat) (S : St) (d : D) (ds : List D) : Prop where
  sto : ∃ L,S = A ++ s0 :: L
  row : (∃ c,A.length < c ∧ d = .sl (.own c 0) n ds ∧ S[c]? = some (.tok ds.length)) ∨ d = .sl .full n ds ∨ (d = .sl .full 0 [] ∧ ds = [])
variable {A S : St} {s0 : Slot} {n : Nat} {d : D} {ds : List D}
theorem Grow.nil (A : St) (s0 : Slot) (n : Nat) (L : St) : Grow A s0 n (A ++ s0 :: L) (.sl .full 0 []) []:=⟨⟨L,rfl⟩,.inr (.inr ⟨rfl,rfl⟩)⟩
theorem Grow.app (g : Grow A s0 n S d ds) (M : St) {y : D} {new : List D} {w : Nat} (hy : appendNew n y = some new) (hl : ds.length + new.length ≤ 1000000000) (hw : w ≤ 100000) :
    ∃ d' S',appendO n w d y (S ++ M) = some (d',S') ∧ Grow A s0 n S' d' (ds ++ new):=by
  obtain ⟨⟨L,rfl⟩,hr⟩:=g
  have hro : roomOk (ds.length + new.length) w = true:=by
    simp only [roomOk,decide_eq_true_eq]
    have:=Nat.mul_le_mul hl hw
    omega
  have hl' : ds.length + new.length ≤ 9223372036854775807:=by omega
  have full : ∀ e,esOk .full e n ds = true → ∃ d' S',appendO n w (.sl .full e ds) y (A ++ s0 :: L ++ M) = some (d',S') ∧ Grow A s0 n S' d' (ds ++ new):=by
    intro e he
    cases new with
    | nil =>
      refine ⟨.sl .full n ds,A ++ s0 :: L ++ M, ?_,⟨⟨L ++ M,by simp⟩,.inr (.inl (by simp))⟩⟩
      simp only [List.length_nil,Nat.add_zero] at hro hl'
      simp [appendO,appendS,hy,hro,hl',he]
    | cons x new =>
      refine ⟨.sl (.own (A ++ s0 :: L ++ M).length 0) n (ds ++ x :: new),A ++ s0 :: L ++ M ++ [.tok (ds.length + (x :: new).length)], ?_,⟨⟨L ++ M ++ [.tok (ds.length + (x :: new).length)],by simp⟩,.inl ⟨_, ?_,rfl, ?_⟩⟩⟩
      · simp only [List.length_cons] at hro hl'
        simp [appendO,appendS,hy,hro,hl',he]
      · simp only [List.length_append,List.length_cons]; omega
      · rw [List.getElem?_append_right (Nat.le_refl _)]; simp
  rcases hr with ⟨c,hc,rfl,ht⟩ | rfl | ⟨rfl,rfl⟩
  · have hcl : c < (A ++ s0 :: L).length:=by
      rcases Nat.lt_or_ge c (A ++ s0 :: L).length with h | h
      · exact h
      · rw [List.getElem?_eq_none h] at ht; cases ht
    refine ⟨.sl (.own c 0) n (ds ++ new),((A ++ s0 :: L) ++ M).set c (.tok (ds.length + new.length)), ?_,⟨⟨((s0 :: L ++ M).set (c - A.length) (.tok (ds.length + new.length))).drop 1, ?_⟩,.inl ⟨c,hc,rfl, ?_⟩⟩⟩
    · rw [append_own (s0:=0) hy (by rw [List.getElem?_append_left hcl,ht]; simp) hro hl']
      simp
    · obtain ⟨m,hm⟩ : ∃ m,c - A.length = m + 1:=⟨c - A.length - 1,by omega⟩
      rw [hm,List.append_assoc,List.set_append_right _ _ (by omega),hm]
      simp
    · rw [List.getElem?_set_self (by simp only [List.length_append] at hcl ⊢; omega)]
      simp
  · exact full n (by simp [esOk])
  · exact full 0 (by simp [esOk,Own.isOwn])
theorem Grow.app1 (g : Grow A s0 n S d ds) (M : St) {x : D} {w : Nat} (hl : ds.length + 1 ≤ 1000000000) (hw : w ≤ 100000) :
    ∃ d' S',appendO n w d (.sl .full n [x]) (S ++ M) = some (d',S') ∧ Grow A s0 n S' d' (ds ++ [x]):=g.app M (by simp [appendNew,esOk]) hl hw
theorem Grow.appL (g : Grow A s0 n S d ds) (M : St) {new : List D} {w : Nat} (hl : ds.length + new.length ≤ 1000000000) (hw : w ≤ 100000) :
    ∃ d' S',appendO n w d (encL n new) (S ++ M) = some (d',S') ∧ Grow A s0 n S' d' (ds ++ new):=g.app M (appendNew_encL n new) hl hw
theorem Grow.canon (g : Grow A s0 n S d ds) (h : PlainL ds) : d.canon = encL n ds:=by
  rcases g.row with ⟨c,_,rfl,_⟩ | rfl | ⟨rfl,rfl⟩
  · exact canon_sl h _ _
  · exact canon_sl h _ _
  · rfl
theorem Grow.shut (g : Grow A s0 n S d ds) (h : PlainL ds) (m : Nat) : (d.shut m).canon = encL n ds:=by
  rcases g.row with ⟨c,_,rfl,_⟩ | rfl | ⟨rfl,rfl⟩
  · simp only [shut_sl,h.shut]; exact canon_sl h _ _
  · simp only [shut_sl,h.shut]; exact canon_sl h _ _
  · rfl
theorem Grow.len (g : Grow A s0 n S d ds) : lenSlO d = some (.int .i64 ds.length):=by
  rcases g.row with ⟨c,_,rfl,_⟩ | rfl | ⟨rfl,rfl⟩ <;> rfl
theorem Grow.cell (g : Grow A s0 n S d ds) : d.cellsT false = some [d]:=by
  rcases g.row with ⟨c,_,rfl,_⟩ | rfl | ⟨rfl,rfl⟩ <;> rfl
theorem Grow.take (g : Grow A s0 n S d ds) : S.take A.length = A:=by obtain ⟨⟨L,rfl⟩,_⟩:=g; simp
end Go.Vm

/- Several expressions as one: the program's join. -/
namespace Go.Vm.Rx
open Go Go.Proofs P
set_option maxRecDepth 10000
set_option maxHeartbeats 2000000
def joinK (op : Int) (ks : List Rx) : Rx:=match ks with | [r] => r | ks => .mk op [] ks
theorem joinK_ne {op : Int} {ks : List Rx} (h : ¬ (ks.length : Int) = 1) : joinK op ks = .mk op [] ks:=by
  unfold joinK
  split
  · simp at h
  · rfl
theorem join_eq {op : Int} {l : List Rx} (h : ∀ r,l ≠ [r]) : join op l = joinK op (flat op l):=by
  rw [join_two h]; rfl
theorem s147_loop (A : St) (op : Int) (l : List Rx) (r0 r1 r2 : D) (hl : l.length ≤ 100000000) (hfl : (flat op l).length ≤ 100000000) : ∀ (t : List Rx) (i : Nat) (acc : List Rx) (S : St) (d y : D),l.drop i = t → i ≤ l.length → acc ++ flat op t = flat op l → Grow A (.cells [r0,r1,r2]) 3 S d (acc.map encRx) →
    LP Tryz.prog rxA 147 [0,1,0,1,1] [A] (Env.mk (sp [(0,.int .i64 op),(3,.ref A.length 0),(0,d),(2,encL 3 (l.map encRx)),(0,.int .i64 (l.length : Nat)),(0,.int .i64 (i : Nat)),(14,y)] 10) []) S = some (.ret (encRx (joinK op (flat op l))),A):=by
  intro t
  induction t with
  | nil =>
    intro i acc S d y ht hi hacc g
    have h1:=drop_len ht
    simp only [flat,List.append_nil] at hacc
    rw [← hacc] at hfl ⊢
    have hln:=g.len
    have hS:=g.shut (plainRxs acc)
    have hce:=g.cell
    obtain ⟨⟨L,rfl⟩,hr⟩:=g
    refine qbc (qbj (q147_0 ..) ?_)
    unfold n147_0; dsimp only
    have hlm : ((acc.map encRx).length : Int) = (acc.length : Int):=by simp
    rw [hlm] at hln
    by_cases hc : (acc.length : Int) = 1
    · obtain ⟨r,rfl⟩ : ∃ r,acc = [r]:=by
        cases acc with
        | nil => simp at hc
        | cons r l => cases l with
          | nil => exact ⟨r,rfl⟩
          | cons _ _ => simp at hc; omega
      have hix : indexAddrO 3 true d (.int .i64 0) = mp ((encRx r).cellsT true) .peek:=by
        rcases hr with ⟨c,_,rfl,_⟩ | rfl | ⟨rfl,h⟩
        · exact idx_lit1 _
        · exact idx_lit1 _
        · simp at h
      (repeat' first | (with_reducible first | apply qa4 | apply qai | apply qaa (b:=true) | apply qaa (b:=false) | apply qaq | apply qao | (apply tot_eql_t; omega)) | ((conv => arg 2; arg 1; simp (disch:=first | omega | assumption) only [bn_some,Option.map_some,qar,qbg,Nat.zero_add,ofA3,List.length_cons,List.length_nil,qa6,qbd,qbb,qa0,qbp,ldc0,sto_sh0,stoc0,hln,hix,rx_cell,rx_lay,rx_fold]); (with_reducible first | apply qab | (apply qba; omega))))
      all_goals (((try conv => arg 2; simp (disch:=first | omega | assumption) only [qac,qaz,qae,qad,qag,List.take_left',rx_shut,rx_canon]); refine qak ?_); rfl)
    · rw [joinK_ne hc]
      have hl1 : layCells false 1 2 [D.int .i64 op,.str [],.sl .full 0 []] d = some [D.int .i64 op,.str [],d]:=by
        simp [layCells,hce,splice]
      have hl2 : layCells true 3 0 [r0,r1,r2] (.agg [D.int .i64 op,.str [],d]) = some [D.int .i64 op,.str [],d]:=by
        have : allCells [D.int .i64 op,.str [],d] = true:=by
          rcases hr with ⟨c,_,rfl,_⟩ | rfl | ⟨rfl,_⟩ <;> rfl
        simp [layCells,D.cellsT,D.agg?,this,splice]
      have hl0 : ∀ a b c x,layCells false 1 0 [a,b,c] (D.int .i64 x) = some [.int .i64 x,b,c]:=fun _ _ _ _ => rfl
      (repeat' first | (with_reducible first | apply qab | apply tp_bnbn | apply qa4 | apply qai | apply qaa (b:=false) | apply qao | (apply tot_eql_f; omega)) | ((conv => arg 2; arg 1; simp (disch:=first | omega | assumption) only [bn_some,Option.map_some,qar,ofA3,qa6,qbd,qbb,qa0,qbp,ldc0,sto_sh0,stoc0,hln,hl0,hl1,hl2]); (with_reducible first | apply qab | (apply qba; omega))))
      all_goals (((try conv => arg 2; simp (disch:=first | omega | assumption) only [qac,qaj,qbs,shut_agg,qax,qau,qaz,qae,qah,qap,qby,qav,qas,qad,qag,List.take_left',hS]); refine qak ?_); rw [encRx_mk])
  | cons x t ih =>
    intro i acc S d y ht hi hacc g
    have h1:=drop_lt ht
    have hx:=idx_drop (f:=encRx) ht 3 true .i64
    have hlen:=congrArg List.length hacc
    simp only [List.length_append] at hlen
    refine qbc (qbj (q147_0 ..) ?_)
    unfold n147_0; dsimp only
    by_cases hop : x.op = op
    · have hf : flat op (x :: t) = x.ks ++ flat op t:=by simp [flat,hop]
      rw [hf,← List.append_assoc] at hacc
      obtain ⟨d',S',hap,g'⟩:=g.appL [.cells [.int .i64 x.op,.str x.nm,encL 3 (x.ks.map encRx)]] (w:=48) (new:=x.ks.map encRx) (by rw [hf] at hlen; simp at hlen ⊢; omega) (by omega)
      rw [← List.map_append] at g'
      (repeat' first | (with_reducible first | (apply qbu; intro hkk hke) | (apply tot_jk; · assumption) | apply qa4 | apply qaa (b:=true) | apply qaq) | ((conv => arg 2; arg 1; simp (disch:=first | omega | assumption) only [qa7,qa2,qaf,qbg,qa5,ofCellsS,Nat.zero_add,Nat.add_zero,qbo,ofA3,qa6,qbd,qbb,qa0,qbp,ldc0,sto_sh0,stoc0,eg_0,eg_S,hx,rx_cell,rx_lay,rx_fold,hap]); (with_reducible first | apply qab | (apply qa1; omega) | (apply tot_eql_t; omega))))
      (refine qa8 ?_; (conv => lhs; simp only [qa6,qbd,qbb,eg_0,eg_S]); have:=ih (i + 1) (acc ++ x.ks) S' d' y (qbt ht) (by omega) hacc g'; simp only [Int.natCast_add,Int.natCast_one] at this; exact this)
    · have hf : flat op (x :: t) = [x] ++ flat op t:=by simp [flat,hop]
      rw [hf,← List.append_assoc] at hacc
      obtain ⟨d',S',hap,g'⟩:=g.app1 [.cells [.int .i64 x.op,.str x.nm,encL 3 (x.ks.map encRx)]] (w:=48) (x:=encRx x) (by rw [hf] at hlen; simp at hlen ⊢; omega) (by omega)
      have hml : acc.map encRx ++ [encRx x] = (acc ++ [x]).map encRx:=by simp
      rw [hml] at g'
      (repeat' first | (with_reducible first | (apply qbu; intro hkk hke) | (apply tot_jk; · assumption) | apply qa4 | apply qaa (b:=true) | apply qaa (b:=false) | apply qaq | apply qao) | ((conv => arg 2; arg 1; simp (disch:=first | omega | assumption) only [qa7,qa2,qaf,qbg,qa5,Nat.add_zero,qbo,ofA3,qa6,qbd,qbb,qa0,qbp,ldc0,sto_sh0,stoc0,eg_0,eg_S,hx,rx_cell,rx_lay,rx_fold,hap,sp3_rx]); (with_reducible first | apply qab | (apply qa1; omega) | (apply tot_eql_f; omega))))
      (refine qa8 ?_; (conv => lhs; simp only [qa6,qbd,qbb,eg_0,eg_S]); have:=ih (i + 1) (acc ++ [x]) S' d' d' (qbt ht) (by omega) hacc g'; simp only [Int.natCast_add,Int.natCast_one] at this; exact this)
theorem s147 (A : St) (op : Int) (l : List Rx) (hl : l.length ≤ 100000000) (hfl : (flat op l).length ≤ 100000000) : f147 (.int .i64 op) (encL 3 (l.map encRx)) A = some (.ret (encRx (joinK op (flat op l))),A):=by
  have:=s147_loop A op l (.int .i64 0) (.str []) (.sl .full 0 []) hl hfl l 0 [] _ _ (.tup []) rfl (by omega) (by simp) (.nil _ _ _ [])
  unfold f147 n147; dsimp only
  refine qbc ?_
  (repeat' first | ((conv => arg 2; arg 1; simp only [qbo,qbl,List.length_map]); (with_reducible apply qab)))
  (refine qa8 ?_; (conv => lhs; simp only []); exact this)
end Go.Vm.Rx

/- The program's reader of words: rows of alternatives. -/
namespace Go.Vm.Rx
open Go Go.Proofs P
set_option maxRecDepth 10000
set_option maxHeartbeats 400000
variable {l : List Word} (hl : l.length ≤ 1100000) (hw : ∀ w,w ∈ l → w.t.length ≤ 100000000)
def progOut (A : St) (k : Nat) (l : List Word) (o : Nat) (x : Except (Nat × Int) (Rx × Nat)) (r : Res × St) : Prop :=
  match x with
  | .ok (e,j) => r = (.ret (encRx e),st A k (psC l (j : Nat) (o : Nat)))
  | .error (a,c) => ∃ i' o' : Int,r = (.pan (.iface 164 (.agg [.int .i64 (a : Nat),.int .i64 c])),st A k (psC l i' o'))
structure ProgSpec (l : List Word) (n : Nat) : Prop where
  alt : ∀ A k o i x,k < A.length → i ≤ l.length → o ≤ 50 → pAlt l n o i = some x → Tot (progOut A k l o x) (f113 (.ref k 0) (st A k (psC l (i : Nat) (o : Nat))))
  alts : ∀ A k o i i0 acc b x r0 r1 r2,k < A.length → i0 < i → i ≤ l.length → acc ≠ [] → Rx.sizes acc + acc.length ≤ 2 * (i - i0) → Rx.Nms acc → AccOk b 3 (acc.map encRx) → o ≤ 50 → pAlts l n o i acc = some x →
    Tot (progOut A k l o x) (LP Tryz.prog rxA 113 [0,0,1,1] [(st A k (psC l (i0 : Nat) (o : Nat)))] (Env.mk (sp [(0,.ref k 0),(1,.ref A.length 0),(0,accD b (A.length + 1) 3 (acc.map encRx))] 28) []) (st (accA b (A ++ [.cells [r0,r1,r2]]) (acc.map encRx)) k (psC l (i : Nat) (o : Nat))))
  seq : ∀ A k o i x,k < A.length → i ≤ l.length → o ≤ 50 → pSeq l n o i = some x → Tot (progOut A k l o x) (f145 (.ref k 0) (st A k (psC l (i : Nat) (o : Nat))))
  seqs : ∀ A k o i i0 acc b x r0 r1 r2,k < A.length → i0 < i → i ≤ l.length → acc ≠ [] → Rx.sizes acc + acc.length ≤ 2 * (i - i0) → Rx.Nms acc → AccOk b 3 (acc.map encRx) → o ≤ 50 → pSeqs l n o i acc = some x →
    Tot (progOut A k l o x) (LP Tryz.prog rxA 145 [0,1,0,1,1] [(st A k (psC l (i0 : Nat) (o : Nat)))] (Env.mk (sp [(0,.ref k 0),(1,.ref A.length 0),(0,accD b (A.length + 1) 3 (acc.map encRx)),(0,.str (wordAt l i))] 38) []) (st (accA b (A ++ [.cells [r0,r1,r2]]) (acc.map encRx)) k (psC l (i : Nat) (o : Nat))))
  rep : ∀ A k o i x,k < A.length → i ≤ l.length → o ≤ 50 → pRep l n o i = some x → Tot (progOut A k l o x) (f171 (.ref k 0) (st A k (psC l (i : Nat) (o : Nat))))
  atom : ∀ A k o i x,k < A.length → i ≤ l.length → o ≤ 50 → pAtom l n o i = some x → Tot (progOut A k l o x) (f195 (.ref k 0) (st A k (psC l (i : Nat) (o : Nat))))
theorem canon1 (a : Str) : (D.sl .full 1 [.str a]).canon = encL 1 ([a].map .str):=rfl
theorem canon3 (a b c : Str) : (D.sl .full 1 [.str a,.str b,.str c]).canon = encL 1 ([a,b,c].map .str):=rfl
include hl hw
theorem progAlt_exit (A : St) (k : Nat) (hk : k < A.length) (i o : Nat) (i0 o0 : Int) (acc : List Rx) (b : Option Nat) (r0 r1 r2 : D) (hb : AccOk b 3 (acc.map encRx)) (hs : Rx.sizes acc ≤ 90000000) (hi : i ≤ 2000000)
    (hne : wordAt l i ≠ [124]) :
    LP Tryz.prog rxA 113 [0,0,1,1] [(st A k (psC l i0 o0))] (Env.mk (sp [(0,.ref k 0),(1,.ref A.length 0),(0,accD b (A.length + 1) 3 (acc.map encRx))] 28) []) (st (accA b (A ++ [.cells [r0,r1,r2]]) (acc.map encRx)) k (psC l i o)) =
      some (.ret (encRx (join 5 acc)),st A k (psC l i o)):=by
  have heat:=s146 (accA b (A ++ [.cells [r0,r1,r2]]) (acc.map encRx)) k l i o [[124]] (lenA (lenL hk)) (by omega) (by omega) (wordAt_short hw i) (by simp)
  rw [if_neg (by simp [hne])] at heat
  have hls:=Rx.len_sizes acc
  have hfl:=flat_len 5 acc
  have hj:=fun A => s147 A 5 acc (by omega) (by omega)
  have hcn:=acc_canon (c:=A.length + 1) hb (plainRxs acc)
  have hkp:=fun L b ds => stA_Kept (A:=A) (k:=k) (cs:=psC l i0 o0) (cs':=psC l i o) (L:=L) (b:=b) (ds:=ds) (psC_shut _ _ _ _)
  refine qbc (qbj (q113_0 ..) ?_)
  unfold n113_0; dsimp only
  by_cases hc : (acc.length : Int) = 1
  · obtain ⟨r,rfl⟩ : ∃ r,acc = [r]:=by
      cases acc with
      | nil => simp at hc
      | cons r l => cases l with
        | nil => exact ⟨r,rfl⟩
        | cons _ _ => simp at hc; omega
    have hx:=idx_acc1 (c:=A.length + 1) (g:=true) (k:=.i64) (d:=encRx r) hb
    have hl1 : ([r] : List Rx).length = 1:=rfl
    simp only [List.map_cons,List.map_nil] at heat hcn ⊢
    (repeat' first | (with_reducible first | apply qa4 | apply qat | apply qai | apply qaa (b:=true) | apply qaq | (apply tot_eql_t; omega)) | ((conv => arg 2; arg 1; simp (disch:=first | omega | assumption) only [bn_some,Option.map_some,qar,qan,qaf,qbg,List.map_nil,Nat.zero_add,Nat.add_zero,ofA3,List.length_cons,List.length_nil,un_not,Bool.not_false,qa6,qbd,qbb,qa0,qay,len_acc,sparts_str,ext0,extS,acc_ld0,acc_sto0,st_ldo,st_sto,r146,canon1,heat,hx,rx_cell,rx_lay,rx_fold,List.map_cons]); (with_reducible apply qab)))
    ((try conv => arg 2; simp (disch:=first | omega | assumption) only [qac,qae,qad,qag,qam,stA_take,hkp,rx_shut,rx_canon]); refine qak ?_)
    rfl
  · rw [join_eq (fun r e => hc (by rw [e]; rfl))]
    (repeat' first | (with_reducible first | apply qa4 | apply qat | apply qai | apply qaa (b:=true) | apply qaa (b:=false) | apply qaq | apply qao | (apply tot_eql_f; omega)) | ((conv => arg 2; arg 1; simp (disch:=first | omega | assumption) only [bn_some,Option.map_some,qar,qan,qaf,Nat.add_zero,ofA3,un_not,Bool.not_false,qa6,qbd,qbb,qa0,qah,qay,len_acc,sparts_str,List.length_map,ext0,extS,acc_ld0,acc_sto0,st_ldo,st_sto,r146,canon1,heat,hcn,r147,hj,rx_lay,rx_fold]); (with_reducible apply qab)))
    ((try conv => arg 2; simp (disch:=first | omega | assumption) only [qac,qae,qad,qag,qam,stA_take,hkp,rx_shut,rx_canon]); refine qak ?_)
    rfl
theorem progAlts_step {n : Nat} (ih : ProgSpec l n) (A : St) (k o i i0 : Nat) (acc : List Rx) (b : Option Nat) (x : Except (Nat × Int) (Rx × Nat)) (r0 r1 r2 : D) (hk : k < A.length) (h0 : i0 < i) (hi : i ≤ l.length) (hne : acc ≠ []) (hs : Rx.sizes acc + acc.length ≤ 2 * (i - i0)) (hn : Rx.Nms acc) (hb : AccOk b 3 (acc.map encRx)) (ho : o ≤ 50) (h : pAlts l (n + 1) o i acc = some x) :
    Tot (progOut A k l o x) (LP Tryz.prog rxA 113 [0,0,1,1] [(st A k (psC l (i0 : Nat) (o : Nat)))] (Env.mk (sp [(0,.ref k 0),(1,.ref A.length 0),(0,accD b (A.length + 1) 3 (acc.map encRx))] 28) []) (st (accA b (A ++ [.cells [r0,r1,r2]]) (acc.map encRx)) k (psC l (i : Nat) (o : Nat)))):=by
  have hls:=Rx.len_sizes acc
  simp only [pAlts] at h
  by_cases hp : wordAt l i = [124]
  · rw [if_pos hp] at h
    have hlt:=qbw (l:=l) (i:=i) (by rw [hp]; simp)
    have heat:=s146 (accA b (A ++ [.cells [r0,r1,r2]]) (acc.map encRx)) k l i o [[124]] (lenA (lenL hk)) (by omega) (by omega) (wordAt_short hw i) (by simp)
    rw [if_pos (by simp [hp])] at heat
    refine qbj (q113_0 ..) ?_
    unfold n113_0; dsimp only
    (repeat' first | (with_reducible first | apply qa4 | apply qat | apply qaa (b:=false) | apply qao) | ((conv => arg 2; arg 1; simp (disch:=first | omega | assumption) only [qan,qaf,Nat.add_zero,un_not,Bool.not_true,qa6,qay,sparts_str,ext0,extS,r146,canon1,heat]); (with_reducible apply qab)))
    have hap:=fun cs r => st_app1_1 (A:=A) (k:=k) (w:=48) (n:=3) (s0:=.cells [r0,r1,r2]) (cs:=cs) (d:=encRx r) hb (by simp; omega) (by omega) hk
    have hml : ∀ r,acc.map encRx ++ [encRx r] = (acc ++ [r]).map encRx:=fun r => by simp
    simp only [hml] at hap
    conv => arg 2; arg 1; simp (disch:=first | omega | assumption) only [qa6,qay,r145]
    rcases PR.bind_some h with ⟨⟨a,c⟩,h1,rfl⟩ | ⟨r,j,h1,h2⟩
    · have hq:=ih.seq (accA b (A ++ [.cells [r0,r1,r2]]) (acc.map encRx)) k o (i + 1) _ (lenA (lenL hk)) (by omega) ho h1
      refine tot_bn hq fun z hz => ?_
      obtain ⟨i',o',rfl⟩:=hz
      have hkp:=fun L b ds => stA_Kept (A:=A) (k:=k) (cs:=psC l i0 o) (cs':=psC l i' o') (L:=L) (b:=b) (ds:=ds) (psC_shut _ _ _ _)
      (repeat' first | (with_reducible first | apply tp_pan | apply qai) | ((conv => arg 2; arg 1; simp only [leaves_pan,qa6,qbd,qbb]); (with_reducible apply qab)))
      try (conv => arg 2; simp (disch:=first | omega | assumption) only [qac,qaj,shut_agg,shut_iface,qax,qau,qbh,qah,qby,canon_iface,qav,qas,qbe,qag,qam,stA_take,hkp])
      exact ⟨_,rfl,i',o',rfl⟩
    · have hq:=ih.seq (accA b (A ++ [.cells [r0,r1,r2]]) (acc.map encRx)) k o (i + 1) _ (lenA (lenL hk)) (by omega) ho h1
      refine tot_bn hq fun z hz => ?_
      have g : P.Good l.length (i + 1) r j:=(facts hw n).seq o (i + 1) _ (by omega) h1
      have g1:=g.lt; have g2:=g.size; have g3:=g.le
      cases (show z = _ from hz)
      have hx:=ih.alts A k o j i0 (acc ++ [r]) none x r0 r1 r2 hk (by omega) g.le (by simp) (by simp only [Rx.sizes_append,Rx.sizes,List.length_append,List.length_cons,List.length_nil]; omega) ((Rx.Nms_append _ _).2 ⟨hn,g.nm,trivial⟩) (.own _ _) ho h2
      (repeat' first | (with_reducible first | apply qa4 | apply qat) | ((conv => arg 2; arg 1; simp (disch:=first | omega | assumption) only [qa6,qbd,qbb,sp3_rx,hap]); (with_reducible apply qab)))
      conv => arg 2; simp only [qa6,qbd,qbb]
      exact hx
  · rw [if_neg hp] at h
    cases h
    exact ⟨_,progAlt_exit hl hw A k hk i o i0 o acc b r0 r1 r2 hb (by omega) (by omega) hp,rfl⟩
theorem progAlt_step {n : Nat} (ih : ProgSpec l n) (A : St) (k o i : Nat) (x : Except (Nat × Int) (Rx × Nat)) (hk : k < A.length) (hi : i ≤ l.length) (ho : o ≤ 50) (h : pAlt l (n + 1) o i = some x) :
    Tot (progOut A k l o x) (f113 (.ref k 0) (st A k (psC l (i : Nat) (o : Nat)))):=by
  simp only [pAlt] at h
  unfold f113 n113; dsimp only
  (repeat' first | ((conv => arg 2; arg 1; simp (disch:=first | omega | assumption) only [qbo,qam,st_appr]); (with_reducible apply qab)))
  conv => arg 2; arg 1; simp (disch:=first | omega | assumption) only [qay,r145]
  rcases PR.bind_some h with ⟨⟨a,c⟩,h1,rfl⟩ | ⟨r,j,h1,h2⟩
  · have hq:=ih.seq (A ++ [.cells [.int .i64 0,.str [],.sl .full 0 []]]) k o i _ (lenL hk) (by omega) ho h1
    refine tot_bn hq fun z hz => ?_
    obtain ⟨i',o',rfl⟩:=hz
    have hkp:=fun L => stL_Kept (A:=A) (k:=k) (cs:=psC l i o) (cs':=psC l i' o') (L:=L) (psC_shut _ _ _ _)
    (repeat' first | (with_reducible first | apply tp_pan | apply qai))
    conv => arg 2; simp (disch:=first | omega | assumption) only [qac,qaj,shut_agg,shut_iface,qax,qau,qbh,qah,qby,canon_iface,qav,qas,qbe,qag,qam,stL_take,hkp]
    exact ⟨_,rfl,i',o',rfl⟩
  · have hq:=ih.seq (A ++ [.cells [.int .i64 0,.str [],.sl .full 0 []]]) k o i _ (lenL hk) (by omega) ho h1
    refine tot_bn hq fun z hz => ?_
    have g : P.Good l.length i r j:=(facts hw n).seq o i _ (by omega) h1
    have g1:=g.lt; have g2:=g.size; have g3:=g.le
    cases (show z = _ from hz)
    have hx:=ih.alts A k o j i [r] (some 3) x (.int .i64 0) (.str []) (.sl .full 0 []) hk g.lt g.le (by simp) (by simp only [Rx.sizes,List.length_cons,List.length_nil]; omega) ⟨g.nm,trivial⟩ (.full _ _) ho h2
    (repeat' first | (with_reducible first | apply qa4 | apply qat) | ((conv => arg 2; arg 1; simp (disch:=first | omega | assumption) only [sp3_rx]); (with_reducible apply qab)))
    conv => arg 2; simp only []
    exact hx
end Go.Vm.Rx
