/- RxS80, RxS81, RxS82 in one text. -/
import Derived.Test.YtagmpieoalkneaaGreatDoorRxS79
import Derived.Test.YtagmpieoalkneaaGreatDoorRxI8
set_option linter.all false
/- The line of an invariant: the reference's text. -/
namespace Go.Vm.Rx
open Go Go.Proofs P
set_option maxRecDepth 10000
set_option maxHeartbeats 4000000
theorem digit_c : ∀ k : Fin 10,letter (UInt8.ofNat (48 + k.val)) = true ∧ (UInt8.ofNat (48 + k.val)).toNat ≠ 45:=by decide
theorem num_word {n : Int} (h : 0 ≤ n) (h2 : n < 100) : RxWord (numT n):=by
  unfold numT
  obtain ⟨m,rfl⟩ : ∃ m : Nat,n = m:=⟨n.toNat,by omega⟩
  simp only [Int.toNat_natCast]
  have hd:=fun k (hk : k < 10)=>digit_c ⟨k,hk⟩
  dsimp only at hd
  by_cases h3 : m < 10
  · have e : Lib.decDigits m = [UInt8.ofNat (48 + m)]:=by rw [Lib.decDigits,dif_pos h3]
    rw [e]
    exact ⟨letters_word (fun d hm=>by rw [List.mem_singleton.1 hm];exact (hd m h3).1) (hd m h3).2,by simp⟩
  · have e : Lib.decDigits m = [UInt8.ofNat (48 + m / 10),UInt8.ofNat (48 + m % 10)]:=by
      rw [Lib.decDigits,dif_neg h3,Lib.decDigits,dif_pos (by omega)];rfl
    rw [e]
    have a:=hd (m / 10) (by omega);have b:=hd (m % 10) (by omega)
    refine ⟨letters_word (fun d hm=>?_) a.2,by simp⟩
    rcases List.mem_cons.1 hm with rfl | hm
    · exact a.1
    · rw [List.mem_singleton.1 hm];exact b.1
theorem risT_names : ∀ (l : List Str) (p : Option Str),risT p l = true → ∀ s,s ∈ l → isName s = true
  | [],_,_,s,h=>by cases h
  | x :: t,p,hr,s,h=>by
    rw [risT_cons] at hr
    simp only [Bool.and_eq_true] at hr
    rcases List.mem_cons.1 h with rfl | h
    · exact hr.1.1
    · exact risT_names t _ hr.2 s h
theorem joinT_mem : ∀ (l : List Str) (b : Bool) (s : Str),s ∈ joinT b l → s = [44] ∨ s ∈ l
  | [],_,_,h=>by cases h
  | x :: t,b,s,h=>by
    unfold joinT at h
    rcases List.mem_append.1 h with h | h
    · cases b
      · simp only [Bool.false_eq_true,if_false,List.mem_cons,List.not_mem_nil,or_false] at h
        rcases h with h | h
        · exact .inl h
        · exact .inr (by simp [h])
      · simp only [if_true,List.mem_cons,List.not_mem_nil,or_false] at h
        exact .inr (by simp [h])
    · rcases joinT_mem t false s h with h | h
      · exact .inl h
      · exact .inr (List.mem_cons_of_mem _ h)
theorem body_ok {v : Iv} (hv : IvGood v) (hr : ivRight v = true) : (∀ w,w ∈ ivBody v → RxWord w) ∧ (ivBody v).length ≤ 6000:=by
  have hr':=hr
  unfold ivRight at hr'
  simp only [Bool.and_eq_true,decide_eq_true_eq] at hr'
  obtain ⟨⟨⟨⟨⟨⟨h1,h2⟩,h3⟩,h4⟩,h5⟩,h6⟩,h7⟩:=hr'
  obtain ⟨k1,k2,k3⟩:=check_0 hv.path
  refine ⟨fun w hw=>?_, ?_⟩
  · unfold ivBody at hw
    rcases List.mem_append.1 hw with hw | hw
    · rcases List.mem_append.1 hw with hw | hw
      · rcases List.mem_append.1 hw with hw | hw
        · simp only [headW,List.mem_cons,List.not_mem_nil,or_false] at hw
          rcases hw with rfl | rfl | rfl | rfl | rfl
          · exact ⟨by decide,by decide⟩
          · exact RxWord.name h1
          · exact ⟨by decide,by decide⟩
          · exact cube_word h2
          · exact ⟨by decide,by decide⟩
        · rcases joinT_mem _ _ _ hw with rfl | hw
          · exact ⟨by decide,by decide⟩
          · exact RxWord.name (risT_names _ _ h7 w hw)
      · simp only [midW,List.mem_cons,List.not_mem_nil,or_false] at hw
        rcases hw with rfl | rfl | rfl | rfl | rfl | rfl
        · exact ⟨by decide,by decide⟩
        · exact num_word (by omega) (by omega)
        · exact ⟨by decide,by decide⟩
        · unfold signT
          split
          · exact ⟨by decide,by decide⟩
          · split <;> exact ⟨by decide,by decide⟩
        · exact num_word (by omega) (by omega)
        · exact ⟨by decide,by decide⟩
    · exact Rx.body_words _ k3 w hw
  · have a:=joinT_len true v.ing
    have b:=Rx.body_len v.path
    have c:=hv.len
    simp only [ivBody,headW,midW,List.length_append,List.length_cons,List.length_nil]
    omega
def lineD (v : Iv) : D:=if ivForm v = 0 then .tup [.str (sayW (ivBody v)),.int .i64 0] else .tup [.str [],.int .i64 (ivForm v)]
end Go.Vm.Rx

/- The line of an invariant: the program's text. -/
namespace Go.Vm.Rx
open Go Go.Proofs P
set_option maxRecDepth 10000
set_option maxHeartbeats 4000000
theorem own_can (A : St) (ws : List Str) : (ownS A ws).canon = encL 1 (ws.map .str):=canon_sl (plainStr ws) _ _
section
variable (A : St) (s0 : Slot) (ws : List Word) (hl : ws.length ≤ 10000)
include hl
theorem s18_end (acc : List Str) (hal : acc.length ≤ 10000) (haw : ∀ w,w ∈ acc → RxWord w) : LP Tryz.prog rxA 18 [0,1,0,1,1,1,1,1,1,1] [A] (Env.mk (sp [(5,ownS A acc),(65,encL 1 ([ws].map encRow)),(0,.int .i64 ((1 : Nat) : Int)),(0,.int .i64 1)] 20) []) (A ++ [s0,.tok acc.length]) = some (.ret (.tup [.str (sayW acc),.int .i64 0]),A):=by
  have hcn:=own_can A acc
  have hsy:=fun A=>s45 A acc (by omega) haw
  refine qbc (qbj (q18_1 ..) ?_)
  unfold n18_1;dsimp only
  (repeat' first | (with_reducible first | apply qat | apply qai | apply qaa (b:=false) | apply qao) | ((conv=>arg 2;arg 1;simp (disch:=first | omega | assumption) only [Option.map_some,qar,qa6,qbd,qbb,ext0,extS,hcn,r45,hsy]);(with_reducible first | apply qab | (apply qba;omega))))
  ((try conv=>arg 2;simp (disch:=first | omega | assumption) only [qac,qaj,qbs,qbv,qax,qau,qaz,qae,qah,qap,qbq,qav,qas,qad,qag,List.take_left']);refine qak ?_)
  rfl
theorem s18_in (n0 : Nat) : ∀ (t : List Word) (k : Nat) (acc : List Str),ws.drop k = t → acc.length + t.length ≤ 10000 → (∀ w,w ∈ acc ++ t.map Word.t → RxWord w) →
    LP Tryz.prog rxA 18 [0,1,1,0,0,1,1,0,0,1,0,1,1,1,1,1,1,1] [(A ++ [s0,.tok n0]),A] (Env.mk (sp [(5,ownS A acc),(65,encL 1 ([ws].map encRow)),(0,.int .i64 ((1 : Nat) : Int)),(0,.int .i64 0),(3,encL 3 (ws.map encW)),(0,.int .i64 (ws.length : Nat)),(0,.int .i64 (k : Nat))] 14) []) (A ++ [s0,.tok acc.length]) = some (.ret (.tup [.str (sayW (acc ++ t.map Word.t)),.int .i64 0]),A):=by
  have hrs : ∀ n,(encL 1 ([ws].map encRow)).shut n = encL 1 ([ws].map encRow):=fun n=>(encL_plain (plainRows [ws]) 1).shut n
  have hws:=ws_shut ws 3
  intro t
  induction t with
  | nil =>
    intro k acc ht hb hw
    have h1:=drop_len ht
    have hos:=own_shut A acc (n:=A.length + 2) (by omega)
    have hkp:=fun n=>own_kept A s0 n0 n
    have htk:=fun s1=>own_take A s0 s1
    simp only [List.map_nil,List.append_nil] at hw ⊢
    have hend:=s18_end A s0 ws hl acc (by simp at hb;omega) hw
    refine qbc (qbj (q18_2 ..) ?_)
    unfold n18_2;dsimp only
    (repeat' first | (with_reducible first | apply tp_gk | apply qaa (b:=false) | apply qao) | ((conv=>arg 2;arg 1;simp (disch:=first | omega | assumption) only [qa7,qa2,qa6,qbd,qbb,Int.reduceAdd,hkp]);(with_reducible first | apply qab | apply qbi | (apply qba;omega))))
    refine qa8 ?_
    conv=>lhs;simp (disch:=first | omega | assumption) only [qaj,qbr,List.map_nil,Nat.zero_add,List.length_append,List.length_cons,List.length_nil,qa6,qbd,qbb,Nat.reduceAdd,hos,hrs,htk]
    exact hend
  | cons w t ih =>
    intro k acc ht hb hw
    have h1:=drop_lt ht
    simp only [List.length_cons] at hb
    have hx:=idx_drop (f:=encW) ht 3 true .i64
    have hwt : ofCells false (cellsW w) 0 1 = some (.str w.t):=rfl
    have hls : layCells true 3 0 [D.str [],.int .i64 0,.int .i64 0] (encW w) = some (cellsW w):=rfl
    have hos:=own_shut A (acc ++ [w.t]) (n:=A.length + 2) (by omega)
    have hap:=fun L=>own_app A s0 acc [w.t] L (own_lit w.t) (by simp;omega)
    have hkp : ∀ m n c,Kept (A ++ [s0,.tok m]) (A ++ [s0,.tok n,c]) ↔ True:=fun m n c=>iff_true_intro (Kept_tail (by simp) fun i hi=>by
      match i,hi with
      | 0,_=>exact .inl rfl
      | 1,_=>exact .inr ⟨_,rfl,rfl⟩
      | i + 2,h=>simp only [List.length_cons,List.length_nil] at h;omega)
    have htk : ∀ s1 c,(A ++ [s0,s1,c]).take (A.length + 2) = A ++ [s0,s1]:=fun s1 c=>by
      have e : A ++ [s0,s1,c] = (A ++ [s0,s1]) ++ [c]:=by simp
      rw [e,List.take_append_of_le_length (by simp),List.take_of_length_le (by simp)]
    have e : acc ++ (w :: t).map Word.t = acc ++ [w.t] ++ t.map Word.t:=by simp
    rw [e] at hw ⊢
    have hih:=ih (k + 1) (acc ++ [w.t]) (qbt ht) (by simp;omega) hw
    simp only [List.length_append,List.length_cons,List.length_nil,Nat.zero_add] at hap hih
    refine qbc (qbj (q18_2 ..) ?_)
    unfold n18_2;dsimp only
    (repeat' first | (with_reducible first | apply qa4 | apply tp_gk | apply qaa (b:=true) | apply qaq) | ((conv=>arg 2;arg 1;simp (disch:=first | omega | assumption) only [qa7,qa2,qaf,qbg,Nat.zero_add,Nat.add_zero,qbo,List.length_append,List.length_cons,List.length_nil,qa6,qbd,qbb,qa0,app_one,app_nil',qbx,ld_sh,ldc0,ldcS,sto_sh,stoc0,stocS,sparts_str,Nat.reduceAdd,hx,cellW,loadW,hls,hwt,hap,hkp]);(with_reducible first | apply qab | apply qbi | (apply qa1;omega))))
    refine qa8 ?_
    conv=>lhs;simp (disch:=first | omega | assumption) only [qaj,qbr,List.map_nil,Nat.zero_add,List.length_append,List.length_cons,List.length_nil,qa6,qbd,qbb,Nat.reduceAdd,hos,hrs,hws,htk]
    exact hih
theorem s18_row (acc : List Str) (hb : acc.length + ws.length ≤ 10000) (hw : ∀ w,w ∈ acc ++ ws.map Word.t → RxWord w) : LP Tryz.prog rxA 18 [0,1,0,1,1,1,1,1,1,1] [A] (Env.mk (sp [(5,ownS A acc),(65,encL 1 ([ws].map encRow)),(0,.int .i64 ((1 : Nat) : Int)),(0,.int .i64 0)] 20) []) (A ++ [s0,.tok acc.length]) = some (.ret (.tup [.str (sayW (acc ++ ws.map Word.t)),.int .i64 0]),A):=by
  have hin:=s18_in A s0 ws hl acc.length ws 0 acc rfl hb hw
  have hix : indexAddrO 1 false (encL 1 ([ws].map encRow)) (.int .i64 0) = some (.peek [encRow ws]):=rfl
  have hrw : ofCells false [encRow ws] 0 1 = some (encL 3 (ws.map encW)):=rfl
  refine qbc (qbj (q18_1 ..) ?_)
  unfold n18_1;dsimp only
  (repeat' first | (with_reducible first | apply qa4 | apply qaa (b:=true) | apply qaq) | ((conv=>arg 2;arg 1;simp (disch:=first | omega | assumption) only [qbg,qa6,qbd,qbb,qbl,List.length_map,hix,hrw]);(with_reducible first | apply qab | (apply qa1;omega))))
  (refine qa8 ?_;(conv=>lhs;simp only [qa6,qbd,qbb]);exact hin)
end
theorem s18_loop (v : Iv) (hv : IvGood v) (A : St) : ∀ (t : List Str) (i : Nat) (acc : List Str) (y : D),v.ing.drop i = t → i ≤ v.ing.length → acc.length + 2 * t.length ≤ 4000 → (∀ w,w ∈ acc ++ joinT (decide (i = 0)) t ++ midW v ++ v.path.body → RxWord w) →
    LP Tryz.prog rxA 18 [0,1,0,1,1,1] [A] (Env.mk (sp [(1,.ref A.length 0),(3,ownS A acc),(23,encL 1 (v.ing.map .str)),(0,.int .i64 (v.ing.length : Nat)),(0,.int .i64 (i : Nat))] 62) []) (A ++ [.cells (ivC v),.tok acc.length]) = some (.ret (.tup [.str (sayW (acc ++ joinT (decide (i = 0)) t ++ midW v ++ v.path.body)),.int .i64 0]),A):=by
  have hlen:=hv.len
  have hh:=hv.hops;have hc:=hv.cnt
  have hrs : (D.ref A.length 0).shut (A.length + 2) = .ref A.length 0:=shut_ref _ (by omega)
  have his:=str_shut v.ing 1
  intro t
  induction t with
  | nil =>
    intro i acc y ht hil hb hw
    have h1:=drop_len ht
    obtain ⟨ws,hx,hwt,hsl,hwl⟩:=path_row hv.path
    have hi1:=fun A=>itoa_run (n:=v.hops) (by omega) (by omega) A
    have hi2:=fun A=>itoa_run (n:=v.cnt) (by omega) (by omega) A
    have hsg:=fun A=>s43 v.cmp A
    have hpr:=fun A=>s44 v.path hv.well.ok.1 A
    rw [print_0 hv.path] at hpr
    have hli:=fun A=>s23 (sayW v.path.body) (by omega) _ hx A
    simp only [linesRes,List.nil_append] at hli
    have hspt : sliceParts 1 false 0 [(0,.str [104,111,112,115]),(1,.str (numT v.hops)),(2,.str [99,111,117,110,116]),(3,.str (signT v.cmp)),(4,.str (numT v.cnt)),(5,.str [112,97,116,104])] = some ((midW v).map .str):=rfl
    have hap:=own_app A (.cells (ivC v)) acc (midW v) (y:=.sl .full 1 ((midW v).map .str)) [] (by simp [appendNew,esOk]) (by simp only [midW,List.length_cons,List.length_nil];simp only [List.length_nil] at hb;omega)
    have e : acc ++ joinT (decide (i = 0)) [] ++ midW v ++ v.path.body = acc ++ midW v ++ v.path.body:=by simp [joinT]
    rw [e] at hw ⊢
    rw [← hwt] at hw
    have hrow:=s18_row A (.cells (ivC v)) ws (by omega) (acc ++ midW v) (by simp only [midW,List.length_append,List.length_cons,List.length_nil];simp only [List.length_nil] at hb;omega) hw
    rw [hwt] at hrow
    generalize hmid : midW v = mid at *
    simp only [List.length_append] at hap hrow
    refine qbc (qbj (q18_0 ..) ?_)
    unfold n18_0;dsimp only
    (repeat' first | (with_reducible first | apply qa4 | apply qat | apply tp_gs0 | apply tp_gs1 | apply qaa (b:=false) | apply qao) | ((conv=>arg 2;arg 1;simp (disch:=first | omega | assumption) only [qaf,Nat.zero_add,List.length_cons,List.length_nil,sameAd_refl,qa6,qbd,qbb,qah,qap,qbl,qbp,ldc0,List.length_map,ext0,extS,ivc3,ivc4,ivc5,ivc6,hi1,hi2,r43,hsg,hspt,hap,rx_canon,r44,hpr,r23,hli]);(with_reducible first | apply qab | apply qbi | (apply qba;omega))))
    (refine qa8 ?_;(conv=>lhs;simp only []);exact hrow)
  | cons x t ih =>
    intro i acc y ht hil hb hw
    have h1:=drop_lt ht
    simp only [List.length_cons] at hb
    have hx:=idx_drop (f:=D.str) ht 1 false .i64
    have hkp:=fun m n=>own_kept A (.cells (ivC v)) m n
    have htk:=fun s1=>own_take A (.cells (ivC v)) s1
    by_cases h0 : i = 0
    · subst h0
      have hap:=own_app A (.cells (ivC v)) acc [x] [] (own_lit x) (by simp;omega)
      have hos:=own_shut A (acc ++ [x]) (n:=A.length + 2) (by omega)
      have e : acc ++ joinT (decide (0 = 0)) (x :: t) ++ midW v ++ v.path.body = acc ++ [x] ++ joinT (decide (0 + 1 = 0)) t ++ midW v ++ v.path.body:=by simp [joinT]
      rw [e] at hw ⊢
      have hih:=ih (0 + 1) (acc ++ [x]) y (qbt ht) (by omega) (by simp;omega) hw
      simp only [List.length_append,List.length_cons,List.length_nil,Nat.zero_add] at hap hih
      refine qbc (qbj (q18_0 ..) ?_)
      unfold n18_0;dsimp only
      (repeat' first | (with_reducible first | (apply qbu;intro hkk hke) | (apply tot_jk;· assumption) | apply qa4 | apply tp_gk | apply qaa (b:=true) | apply qaa (b:=false) | apply qaq | apply qao) | ((conv=>arg 2;arg 1;simp (disch:=first | omega | assumption) only [qa7,qa2,qbg,qa5,qa6,qbd,qbb,qa0,cell_str,sparts_str,eg_0,eg_S,hx,hap,hkp]);(with_reducible first | apply qab | apply qbi | (apply qa1;omega) | (apply tot_gtr_f;omega))))
      refine qa8 ?_
      conv=>lhs;simp (disch:=first | omega | assumption) only [qaj,qbr,List.map_nil,Nat.zero_add,List.length_append,List.length_cons,List.length_nil,qa6,qbd,qbb,Nat.reduceAdd,eg_0,eg_S,hos,hrs,his,htk]
      exact hih
    · have hap:=fun L=>own_app A (.cells (ivC v)) acc [[44]] L (own_lit [44]) (by simp;omega)
      have hap2:=fun L=>own_app A (.cells (ivC v)) (acc ++ [[44]]) [x] L (own_lit x) (by simp;omega)
      have hos:=own_shut A (acc ++ [[44]] ++ [x]) (n:=A.length + 2) (by omega)
      have e : acc ++ joinT (decide (i = 0)) (x :: t) ++ midW v ++ v.path.body = acc ++ [[44]] ++ [x] ++ joinT (decide (i + 1 = 0)) t ++ midW v ++ v.path.body:=by simp [joinT,h0]
      rw [e] at hw ⊢
      have hih:=ih (i + 1) (acc ++ [[44]] ++ [x]) y (qbt ht) (by omega) (by simp;omega) hw
      simp only [List.length_append,List.length_cons,List.length_nil,Nat.zero_add] at hap hap2 hih
      refine qbc (qbj (q18_0 ..) ?_)
      unfold n18_0;dsimp only
      (repeat' first | (with_reducible first | (apply qbu;intro hkk hke) | (apply tot_jk;· assumption) | apply qa4 | apply tp_gk | apply qaa (b:=true) | apply qaq) | ((conv=>arg 2;arg 1;simp (disch:=first | omega | assumption) only [qa7,qa2,qbg,qa5,qa6,qbd,qbb,qa0,cell_str,sparts_str,eg_0,eg_S,hx,hap,hap2,hkp]);(with_reducible first | apply qab | apply qbi | (apply qa1;omega) | (apply tot_gtr_t;omega))))
      refine qa8 ?_
      conv=>lhs;simp (disch:=first | omega | assumption) only [qaj,qbr,List.map_nil,Nat.zero_add,List.length_append,List.length_cons,List.length_nil,qa6,qbd,qbb,Nat.reduceAdd,eg_0,eg_S,hos,hrs,his,htk]
      exact hih
theorem s18 (v : Iv) (hv : IvWell v) (A : St) : f18 (encIv v) A = some (.ret (lineD v),A):=by
  have hf:=fun A=>s14 v hv A
  have hcn : (encIv v).canon = encIv v:=(plainIv v).canon
  unfold f18 n18 lineD;dsimp only
  refine qbc ?_
  by_cases h : ivForm v = 0
  · rw [if_pos h]
    rw [h] at hf
    obtain ⟨hg,hr⟩:=ivGood hv h
    obtain ⟨hb,hbl⟩:=body_ok hg hr
    have hlen:=hg.len
    have hlo:=s18_loop v hg A v.ing 0 (headW v) (.tup []) rfl (by omega) (by simp only [headW,List.length_cons,List.length_nil];omega) hb
    have hspt : sliceParts 1 false 0 [(0,.str [105,110,118,97,114,105,97,110,116]),(1,.str v.nm),(2,.str [112,97,99,107,101,116,115]),(3,.str v.pk),(4,.str [102,114,111,109])] = some ((headW v).map .str):=rfl
    have htk : ∀ S,tokO [(0,1)] (.sl .full 1 ((headW v).map .str)) S = some (.sl (.own S.length 0) 1 ((headW v).map .str),S ++ [.tok (headW v).length]):=fun S=>rfl
    (repeat' first | (with_reducible first | apply qa4 | apply qat | apply qaa (b:=false) | apply qao | (apply tot_neq_t;omega)) | ((conv=>arg 2;arg 1;simp (disch:=first | omega | assumption) only [qaf,Nat.zero_add,Nat.add_zero,List.length_append,List.length_cons,List.length_nil,qbl,app_one,app_nil',qbx,qbp,ldc0,List.length_map,ivbx,ivc0,ivc1,ivc2,ivcA,hcn,r14,hf,hspt,htk]);(with_reducible apply qab)))
    refine qa8 ?_
    conv=>lhs;simp only []
    exact hlo
  · rw [if_neg h]
    (repeat' first | (with_reducible first | apply qa4 | apply qat | apply qai | apply qaa (b:=true) | apply qaq | (apply tot_neq_f;omega)) | ((conv=>arg 2;arg 1;simp (disch:=first | omega | assumption) only [qbp,ldc0,ivbx,ivcA,hcn,r14,hf]);(with_reducible apply qab)))
    ((try conv=>arg 2;simp (disch:=first | omega | assumption) only [qac,qaj,qbs,qbv,qax,qau,qaz,qae,qah,qap,qbq,qav,qas,qad,qag,List.take_left']);refine qak ?_)
    rfl
end Go.Vm.Rx

/- The text of invariants: the reference's text. -/
namespace Go.Vm.Rx
open Go Go.Proofs P
set_option maxRecDepth 10000
set_option maxHeartbeats 4000000
def printL (b : Str) (pre : List Iv) : List Iv → Str × Int × Int
  | []=>if 1048576 < b.length then ([],0,2) else (b,0,0)
  | v :: t=>if ¬ ivForm v = 0 then ([],(pre.length : Nat),ivForm v) else if knownP pre v.nm = true then ([],(pre.length : Nat),52) else printL (b ++ sayW (ivBody v) ++ [10]) (pre ++ [v]) t
def printP (l : List Iv) : Str × Int × Int:=if 64 < l.length then ([],0,3) else printL [] [] l
def printT (x : Str × Int × Int) : D:=.tup [.str x.1,.int .i64 x.2.1,.int .i64 x.2.2]
def byS (A : St) (b : Str) : D:=.sl (.own A.length 0) 1 (strBytes b)
theorem by_app (A : St) (b s : Str) {y : D} (L : St) (hy : appendNew 1 y = some (strBytes s)) (hl : b.length + s.length ≤ 1000000000) :
    appendO 1 1 (byS A b) y (A ++ .tok b.length :: L) = some (byS A (b ++ s),A ++ .tok (b ++ s).length :: L):=by
  unfold byS
  rw [append_own (s0:=0) hy (by simp [strBytes]) (by simp [roomOk,strBytes];omega) (by simp [strBytes];omega),strBytes_append]
  simp [strBytes]
theorem by_shut (A : St) (b : Str) {n : Nat} (h : A.length < n) : (byS A b).shut n = byS A b:=by
  unfold byS
  rw [shut_sl,own_own _ h,shutL_str]
theorem by_kept (A L : St) (m n : Nat) : Kept (A ++ [.tok m]) (A ++ .tok n :: L) ↔ True:=iff_true_intro (Kept_tail (by simp) fun i hi=>by
  have : i = 0:=by simpa using hi
  subst this
  exact .inr ⟨_,rfl,rfl⟩)
theorem by_take (A L : St) (s : Slot) : (A ++ s :: L).take (A.length + 1) = A ++ [s]:=take_n1 A L s
theorem by_len (A : St) (b : Str) : lenSlO (byS A b) = some (.int .i64 (b.length : Nat)):=by simp [byS,lenSlO]
theorem by_conv (A : St) (b : Str) : convO .bytesStr (byS A b) = some (.str b):=convBytes _ b
theorem by_tok (A S : St) (b : Str) : tokO [(0,1)] (byS A b) S = some (byS A b,S):=rfl
theorem to_ivs (l : List Iv) (i : Nat) (h : i ≤ l.length) : ∃ y,sliceSlO 9 (encL 9 (l.map encIv)) none (some (.int .i64 (i : Int))) none = some y ∧ y.canon = encL 9 ((l.take i).map encIv):=by
  cases l with
  | nil =>
    have : i = 0:=by simpa using h
    subst this
    exact ⟨_,rfl,rfl⟩
  | cons x l =>
    simp only [List.length_cons] at h
    refine ⟨.sl (sliceOwn .sh (l.length + 1) 0 i none) 9 (((x :: l).take i).map encIv), ?_,canon_sl (plainIvs _) _ _⟩
    have e : esOk .sh 9 9 ((x :: l).map encIv) = true:=rfl
    simp [sliceSlO,encL,optInt,D.int?,sliceSl,esOk,List.map_take]
    omega
theorem line_len {v : Iv} (hv : IvWell v) (h : ivForm v = 0) : (sayW (ivBody v)).length ≤ 1210000:=by
  obtain ⟨hg,hr⟩:=ivGood hv h
  obtain ⟨h1,h2⟩:=body_ok hg hr
  have:=sayW_len h1
  omega
end Go.Vm.Rx
