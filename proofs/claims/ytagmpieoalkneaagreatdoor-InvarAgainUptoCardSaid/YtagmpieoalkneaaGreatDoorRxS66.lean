/- RxS69, RxS66 in one text. -/
import Derived.Test.YtagmpieoalkneaaGreatDoorVmVs
import Derived.Test.YtagmpieoalkneaaGreatDoorRxI8
import Derived.Test.YtagmpieoalkneaaGreatDoorRxOk
set_option linter.all false
/- The program's reader of a line: the devices. -/
namespace Go.Vm.Rx
open Go Go.Proofs P
set_option maxRecDepth 10000
set_option maxHeartbeats 4000000
theorem bsGo_same {f g : Nat → Bool} {hi : Nat} (h : ∀ t,t < hi → f t = g t) : ∀ (n lo hi' : Nat),hi' ≤ hi → Lib.bsGo f n lo hi' = Lib.bsGo g n lo hi'
  | 0,_,_,_ => rfl
  | n + 1,lo,hi',hh => by
    unfold Lib.bsGo
    by_cases hlt : lo < hi'
    · rw [if_pos hlt,if_pos hlt,h _ (by omega),bsGo_same h n _ _ hh,bsGo_same h n _ _ (by omega)]
    · rw [if_neg hlt,if_neg hlt]
theorem bsAt_eq {acc : List Str} (hr : Rise acc) (s : Str) : bsAt acc s = posS s acc:=by
  unfold bsAt
  rw [bsGo_same (hi:=acc.length) (g:=fun t => decide (t < posS s acc)) (fun t ht => by
    rw [Go.Proofs.bytesLess_eq]
    by_cases h : t < posS s acc
    · rw [decide_eq_true h,decide_eq_true (posS_lt s acc t h)]
    · rw [decide_eq_false h,decide_eq_false (posS_ge s acc t hr (by omega) ht)]) _ _ _ (Nat.le_refl _)]
  exact Lib.bsGo_spec _ _ (fun t h => decide_eq_true h) (fun t h => decide_eq_false (by omega)) _ _ _ (by omega) (by omega) (posS_le s acc)
theorem bsIs_eq {acc : List Str} (hr : Rise acc) (s : Str) : bsIs acc s = decide (posS s acc < acc.length ∧ acc.getD (posS s acc) [] = s):=by
  unfold bsIs; rw [bsAt_eq hr]
def ipRes {α : Type} (f : α → D) (A : St) (k : Nat) (l : List Word) : Except (Nat × Int) (α × Nat) → Res × St → Prop
  | .ok (x,j),r => r = (.ret (f x),st A k (ipC l j))
  | .error (j,e),r => ∃ i' : Int,r = (.pan (.iface 55 (.agg [.int .i64 (wordW l j).line,.int .i64 (wordW l j).col,.int .i64 e])),st A k (ipC l i'))
theorem leave_frzS {A0 A1 S : St} {v m : Nat} {xs : List Str} (hk : Kept A0 S) (ht : S.take A0.length = A1) (h : TRow S v xs) (hA : A0.length ≤ v) (hm : m = xs.length) :
    leaveD .frz A0 (.ret (.vsl v 0 1 m)) S = some (.ret (encL 1 (xs.map .str)),A1):=by
  subst hm
  have e : ((D.vsl v 0 1 xs.length).frz A0.length S) = .sl .sh 1 (xs.map .str):=by
    simp only [D.frz,D.mapV,if_neg (Nat.not_lt.2 hA)]
    unfold frzV
    rw [h]
    simp only [List.drop_zero]
    rw [rowV_one _ _ (by simp),← List.map_take,List.take_of_length_le (Nat.le_refl _),mapVL_str]
  simp only [leaveD,Res.frz,e,Res.canon,guardP_true hk,ht]
  congr 3
  unfold encL
  simp only [D.canon,canonL_str]
  cases xs with
  | nil => rfl
  | cons x r => rfl
theorem leave_frzP {A0 S : St} {t : TypeId} {a b c : Int} : leaveD .frz A0 (.pan (.iface t (.agg [.int .i64 a,.int .i64 b,.int .i64 c]))) S = guardP (Kept A0 S) (some (.pan (.iface t (.agg [.int .i64 a,.int .i64 b,.int .i64 c])),S.take A0.length)):=by
  simp [leaveD,Res.frz,D.frz,D.mapV,D.mapVL,Res.canon,D.canon,D.canonL]
section
variable (A : St) (k : Nat) (hk : k < A.length) (cs : List D) (L : St) (j : Nat) (acc : List Str)
include hk
theorem st_row (x : List D) (hj : j < L.length) : (st (A ++ L) k x)[A.length + j]? = L[j]?:=by
  rw [st_other (by omega),List.getElem?_append_right (by omega)]; congr 1; omega
theorem search_st (hL : L[j]? = some (Slot.cells (acc.map .str))) (hr : Rise acc) (hb : acc.length ≤ 1000) (s : Str) : Run Tryz.prog rxA 109 [.vsl (A.length + j) 0 1 acc.length,.str s] (st (A ++ L) k cs) = some (.ret (.tup [.int .i64 (posS s acc : Nat),.bool (decide (posS s acc < acc.length ∧ acc.getD (posS s acc) [] = s))]),st (A ++ L) k cs):=by
  have hj : j < L.length:=(List.getElem?_eq_some_iff.1 hL).1
  rw [Run_ext _ _ (by decide) rfl]
  have:=onStrs_run (k:=A.length + j) (A:=st (A ++ L) k cs) (F:=fun ss => some (.ret (.tup [.int .i64 (bsAt ss s : Nat),.bool (bsIs ss s)]),st (A ++ L) k cs)) (by rw [st_row A k hk L j cs hj]; exact hL) rfl (by omega)
  refine Eq.trans this ?_
  rw [bsIs_eq hr,bsAt_eq hr]
theorem insert_st (hL : L[j]? = some (Slot.cells (acc.map .str))) (hb : acc.length ≤ 1000) (p : Nat) (hp : p ≤ acc.length) (s : Str) : Run Tryz.prog rxA 110 [.vsl (A.length + j) 0 1 acc.length,.int .i64 (p : Nat),.vsl (A.length + L.length) 0 1 1] (st (A ++ (L ++ [Slot.cells [.str s]])) k cs) =
    some (.ret (.vsl (A.length + (L.length + 1)) 0 1 (acc.length + 1)),st (A ++ ((L ++ [Slot.cells [.str s]]).set j .dead ++ [Slot.cells ((acc.take p ++ s :: acc.drop p).map .str)])) k cs):=by
  have hj : j < L.length:=(List.getElem?_eq_some_iff.1 hL).1
  have h1 : (st (A ++ (L ++ [Slot.cells [.str s]])) k cs)[A.length + j]? = some (.cells (acc.map .str)):=by
    rw [st_row A k hk _ j cs (by simp; omega),List.getElem?_append_left hj]; exact hL
  have h2 : (st (A ++ (L ++ [Slot.cells [.str s]])) k cs)[A.length + L.length]? = some (.cells [.str s]):=by
    rw [st_row A k hk _ L.length cs (by simp)]; simp
  rw [Run_ext _ _ (by decide) rfl]
  show insX _ _ = _
  unfold insX
  simp only [h1,h2,Option.bind_some]
  rw [if_pos ⟨trivial,trivial,trivial,trivial,trivial,by omega,by omega,by omega,by omega⟩,if_pos (by simp),strsOf_map]
  simp only [Option.map_some,Int.toNat_natCast]
  congr 3
  · simp [qam]
  · unfold st
    rw [List.set_comm _ _ (by omega),List.set_append_right _ _ (by omega),Nat.add_sub_cancel_left,← List.append_assoc A]
    exact (List.set_append_left _ _ (by rw [List.length_append]; omega)).symm
end
theorem len_vsl (k o e n : Nat) : lenSlO (.vsl k o e n) = some (.int .i64 n):=rfl
theorem s65_loop (A : St) (k : Nat) (l : List Word) (hl : LineOk l) (hk : k < A.length) (i0 : Int) : ∀ (f i : Nat) (acc : List Str) (L : St) (j : Nat),l.length < i + f → i ≤ l.length → Rise acc → acc.length ≤ 256 → L[j]? = some (Slot.cells (acc.map .str)) →
    Tot (ipRes (fun x : List Str => encL 1 (x.map .str)) A k l (ingP l f acc i)) (LP Tryz.prog rxA 65 [0,1,1] [(st A k (ipC l i0))] (Env.mk (sp [(0,.ref k 0),(2,.vsl (A.length + j) 0 1 acc.length)] 60) []) (st (A ++ L) k (ipC l i))):=by
  have hlen:=hl.len
  intro f
  induction f with
  | zero => intro i acc L j h1 h2; omega
  | succ f ih =>
    intro i acc L j h1 h2 hr hac hL
    have hj : j < L.length:=(List.getElem?_eq_some_iff.1 hL).1
    have hkp:=fun L j => stL_Kept (A:=A) (k:=k) (cs:=ipC l i0) (cs':=ipC l j) (L:=L) (ipC_shut _ _ _)
    have hwd:=fun L => s64 (A ++ L) k l hl i (lenL hk) (by omega)
    have hsh:=hl.at_ i
    have hnm:=fun A => s34 (wordAt l i) (by omega) A
    have hst:=fun L e => s28 (A ++ L) k l hl i e (lenL hk) (by omega)
    have hf : fieldO false 0 1 (encW (wordW l i)) = some (.str (wordAt l i)):=by rw [fld0,wordW_t]
    refine qbj (q65_0 ..) ?_
    unfold n65_0; dsimp only
    by_cases hn : isName (wordAt l i) = true
    · have hi1:=qbw (l:=l) (i:=i) (isName_ne hn)
      rw [hn] at hnm
      have hse:=search_st A k hk (ipC l i) L j acc hL hr (by omega) (wordAt l i)
      have hins:=insert_st A k hk (ipC l i) L j acc hL (by omega) (posS (wordAt l i) acc) (posS_le _ _) (wordAt l i)
      have hpl:=putS_len (wordAt l i) acc
      have hpr:=Rise_put (wordAt l i) acc hr
      have hput:=putS_eq (wordAt l i) acc
      have hwd1:=fun L => s64 (A ++ L) k l hl (i + 1) (lenL hk) (by omega)
      have hf1 : fieldO false 0 1 (encW (wordW l (i + 1))) = some (.str (wordAt l (i + 1))):=by rw [fld0,wordW_t]
      simp only [Int.natCast_add,Int.natCast_one] at hwd1
      by_cases hin : posS (wordAt l i) acc < acc.length ∧ acc.getD (posS (wordAt l i) acc) [] = wordAt l i
      · rw [if_pos hin] at hput
        rw [decide_eq_true hin] at hse
        by_cases h3 : wordAt l (i + 1) = [44]
        · rw [ingP_go hn (by rw [hput]; omega) h3,hput]
          have hi2:=qbw (l:=l) (i:=i + 1) (by rw [h3]; simp)
          have hnx:=ih (i + 1 + 1) acc L j (by omega) (by omega) hr hac hL
          simp only [Int.natCast_add,Int.natCast_one] at hnx
          (repeat' first | (with_reducible first | (apply qbu; intro hkk hke) | (apply tot_jk; · assumption) | apply qa4 | apply qat | apply qaa (b:=false) | apply qao | (apply tot_gtr_f; omega) | (apply tot_sneq_t; first | assumption | with_reducible rfl)) | ((conv => arg 2; arg 1; simp (disch:=first | omega | assumption) only [qa7,qa2,qan,qaf,Nat.zero_add,Nat.add_zero,un_not,Bool.not_true,qa6,qbd,qbb,qa0,qap,qay,ext0,extS,eg_0,eg_S,stL_load,stL_store,ipl1,ips1,r64,hwd,hf,hwd1,hf1,r34,hnm,hse,len_vsl]); (with_reducible apply qab)))
          conv => arg 2; simp only [qa6,qbd,qbb,eg_0,eg_S]
          exact hnx
        · rw [ingP_end hn (by rw [hput]; omega) h3,hput]
          have hlv:=fun x => leave_frzS (A0:=st A k (ipC l i0)) (S:=st (A ++ L) k (ipC l x)) (xs:=acc) ((hkp L x).2 trivial) (by rw [qam,stL_take hk]) (by unfold TRow; rw [st_row A k hk L j _ hj]; exact hL) (by rw [qam]; omega) rfl
          (repeat' first | (with_reducible first | (apply qbu; intro hkk hke) | (apply tot_jk; · assumption) | apply qa4 | apply qat | apply qai | apply qaa (b:=true) | apply qaa (b:=false) | apply qaq | apply qao | (apply tot_gtr_f; omega) | (apply tot_sneq_f; first | assumption | decide | exact List.cons_ne_nil _ _)) | ((conv => arg 2; arg 1; simp (disch:=first | omega | assumption) only [Option.map_some,qa7,qa2,qar,qan,qaf,Nat.zero_add,Nat.add_zero,un_not,Bool.not_true,qa6,qbd,qbb,qa0,qap,qay,ext0,extS,eg_0,eg_S,stL_load,stL_store,ipl1,ips1,r64,hwd,hf,hwd1,hf1,r34,hnm,hse,len_vsl]); (with_reducible apply qab)))
          conv => arg 2; simp (disch:=first | omega | assumption) only [hlv]
          exact ⟨_,rfl,rfl⟩
      · rw [if_neg hin] at hput
        rw [decide_eq_false hin] at hse
        rw [← hput] at hins
        have hpl2 : (putS (wordAt l i) acc).length = acc.length + 1:=by rw [hput]; simp; have:=posS_le (wordAt l i) acc; omega
        have hcn : ∀ S,litO 1 false 1 [(0,.str (wordAt l i))] S = some (.vsl S.length 0 1 1,S ++ [.cells [.str (wordAt l i)]]):=fun S => rfl
        have hL2 : ((L ++ [Slot.cells [.str (wordAt l i)]]).set j .dead ++ [Slot.cells ((putS (wordAt l i) acc).map .str)])[L.length + 1]? = some (Slot.cells ((putS (wordAt l i) acc).map .str)):=by
          rw [List.getElem?_append_right (by simp)]; simp
        by_cases hm : 256 < (putS (wordAt l i) acc).length
        · rw [ingP_many hn hm]
          (repeat' first | (with_reducible first | (apply qbu; intro hkk hke) | (apply tot_jk; · assumption) | apply qat | apply tp_pan | apply qai | apply qaa (b:=true) | apply qaa (b:=false) | apply qaq | apply qao | (apply tot_gtr_t; omega)) | ((conv => arg 2; arg 1; simp (disch:=first | omega | assumption) only [leaves_pan,qan,qaf,Nat.add_zero,List.length_append,un_not,Bool.not_true,Bool.not_false,qa6,qbd,qbb,qah,qap,qay,qam,ext0,extS,eg_0,eg_S,stL_appr,r64,hwd,hf,r34,hnm,hse,len_vsl,hcn,tok_vv,hins,r28,hst]); (with_reducible apply qab)))
          conv => arg 2; simp (disch:=first | omega | assumption) only [qac,qam,stL_take,leave_frzP,hkp]
          exact ⟨_,rfl,i,rfl⟩
        · by_cases h3 : wordAt l (i + 1) = [44]
          · rw [ingP_go hn hm h3]
            have hi2:=qbw (l:=l) (i:=i + 1) (by rw [h3]; simp)
            have hnx:=ih (i + 1 + 1) (putS (wordAt l i) acc) _ (L.length + 1) (by omega) (by omega) hpr (by omega) hL2
            rw [hpl2] at hnx
            simp only [Int.natCast_add,Int.natCast_one] at hnx
            (repeat' first | (with_reducible first | (apply qbu; intro hkk hke) | (apply tot_jk; · assumption) | apply qa4 | apply qat | apply qaa (b:=true) | apply qaa (b:=false) | apply qaq | apply qao | (apply tot_gtr_f; omega) | (apply tot_sneq_t; first | assumption | with_reducible rfl)) | ((conv => arg 2; arg 1; simp (disch:=first | omega | assumption) only [qa7,qa2,qan,qaf,Nat.zero_add,Nat.add_zero,List.length_append,un_not,Bool.not_true,Bool.not_false,qa6,qbd,qbb,qa0,qap,qay,qam,ext0,extS,eg_0,eg_S,stL_load,stL_store,stL_appr,ipl1,ips1,r64,hwd,hf,hwd1,hf1,r34,hnm,hse,len_vsl,hcn,tok_vv,hins]); (with_reducible apply qab)))
            conv => arg 2; simp only [qa6,qbd,qbb,eg_0,eg_S]
            exact hnx
          · rw [ingP_end hn hm h3]
            have hlv:=fun x => leave_frzS (m:=acc.length + 1) (v:=A.length + (L.length + 1)) (A0:=st A k (ipC l i0)) (S:=st (A ++ ((L ++ [Slot.cells [.str (wordAt l i)]]).set j .dead ++ [Slot.cells ((putS (wordAt l i) acc).map .str)])) k (ipC l x)) (xs:=putS (wordAt l i) acc) ((hkp _ x).2 trivial) (by rw [qam,stL_take hk]) (by unfold TRow; rw [st_row A k hk _ (L.length + 1) _ (by simp)]; exact hL2) (by rw [qam]; omega) hpl2.symm
            (repeat' first | (with_reducible first | (apply qbu; intro hkk hke) | (apply tot_jk; · assumption) | apply qa4 | apply qat | apply qai | apply qaa (b:=true) | apply qaa (b:=false) | apply qaq | apply qao | (apply tot_gtr_f; omega) | (apply tot_sneq_f; first | assumption | decide | exact List.cons_ne_nil _ _)) | ((conv => arg 2; arg 1; simp (disch:=first | omega | assumption) only [Option.map_some,qa7,qa2,qar,qan,qaf,Nat.zero_add,Nat.add_zero,List.length_append,un_not,Bool.not_true,Bool.not_false,qa6,qbd,qbb,qa0,qap,qay,qam,ext0,extS,eg_0,eg_S,stL_load,stL_store,stL_appr,ipl1,ips1,r64,hwd,hf,hwd1,hf1,r34,hnm,hse,len_vsl,hcn,tok_vv,hins]); (with_reducible apply qab)))
            conv => arg 2; simp (disch:=first | omega | assumption) only [hlv]
            exact ⟨_,rfl,rfl⟩
    · rw [ingP_no hn]
      simp only [Bool.not_eq_true] at hn
      rw [hn] at hnm
      (repeat' first | (with_reducible first | (apply qbu; intro hkk hke) | apply qat | apply tp_pan | apply qai | apply qaa (b:=true) | apply qaq) | ((conv => arg 2; arg 1; simp (disch:=first | omega | assumption) only [leaves_pan,qan,qaf,Nat.add_zero,un_not,Bool.not_false,qa6,qbd,qbb,sp_gn,qah,qap,qay,r64,hwd,hf,r34,hnm,r28,hst]); (with_reducible apply qab)))
      conv => arg 2; simp (disch:=first | omega | assumption) only [qac,qam,stL_take,leave_frzP,hkp]
      exact ⟨_,rfl,i,rfl⟩
end Go.Vm.Rx

/- The reference's reader of a line: from the devices on. -/
namespace Go.Vm.Rx
open Go Go.Proofs P
set_option maxRecDepth 10000
set_option maxHeartbeats 4000000
def ivF (nm pk : Str) (ig : D) (h c n : Int) (r : Rx) : List D:=[.str nm,.str pk,ig,.int .i64 h,.int .i64 c,.int .i64 n,.int .i64 r.op,.str r.nm,encL 3 (r.ks.map encRx)]
section
variable (nm pk nm' pk' : Str) (ig ig' : D) (h c n h' c' n' : Int) (r : Rx)
theorem ivlF : ofCells true (ivF nm pk ig h c n r) 0 9 = some (.agg (ivF nm pk ig h c n r)):=rfl
theorem ivsA (hc : ig.cell?.isSome = true) : layCells true 9 0 (ivX nm' pk' ig' h' c' n') (.agg (ivX nm pk ig h c n)) = some (ivX nm pk ig h c n):=by
  have e : allCells (ivX nm pk ig h c n) = true:=by unfold ivX allCells; rw [List.all_cons,List.all_cons,List.all_cons,hc]; rfl
  simp only [layCells,D.cellsT,D.agg?,Option.bind_some,e,cond_true]
  rfl
theorem ivsF (hc : ig.cell?.isSome = true) : layCells true 9 0 (ivX nm' pk' ig' h' c' n') (.agg (ivF nm pk ig h c n r)) = some (ivF nm pk ig h c n r):=by
  have e : allCells (ivF nm pk ig h c n r) = true:=by unfold ivF allCells; rw [List.all_cons,List.all_cons,List.all_cons,hc]; rfl
  simp only [layCells,D.cellsT,D.agg?,Option.bind_some,e,cond_true]
  rfl
theorem ivs6 : layCells true 3 6 (ivX nm pk ig h c n) (encRx r) = some (ivF nm pk ig h c n r):=by
  simp only [layCells,rx_cell,Option.bind_some]
  rfl
theorem ivF_shut (hs : ∀ m,ig.shut m = ig) (m : Nat) : D.shutL m (ivF nm pk ig h c n r) = ivF nm pk ig h c n r:=by simp [ivF,hs,rxs_shut]
theorem ivF_can {L : List Str} (hg : ig.canon = encL 1 (L.map .str)) : D.canonL (ivF nm pk ig h c n r) = ivC ⟨nm,pk,L,h,c,n,r⟩:=by
  simp only [ivF,qas,qap,qah,hg,rxs_canon]
  rfl
end
end Go.Vm.Rx
