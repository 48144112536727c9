/- RxS80, RxS81, RxArgJ, RxTop in one text. -/
import Derived.Test.YtagmpieoalkneaaGreatDoorRxS79
import Derived.Test.YtagmpieoalkneaaGreatDoorRxI6
import Derived.Test.YtagmpieoalkneaaGreatDoorRxArgI
set_option linter.all false
/- The line of an invariant: the reference's text. -/
namespace Go.Vm.Rx
open Go Go.Proofs P
set_option maxRecDepth 10000
set_option maxHeartbeats 4000000
theorem digit_c:∀ k:Fin 10,letter (UInt8.ofNat (48+k.val))=true∧(UInt8.ofNat (48+k.val)).toNat≠45:=by decide
theorem num_word {n:Int} (h:0≤n) (h2:n<100):RxWord (numT n):=by
 unfold numT
 obtain ⟨m,rfl⟩:∃ m:Nat,n=m:=⟨n.toNat,by omega⟩
 simp only [Int.toNat_natCast]
 have hd:=fun k (hk:k<10)=>digit_c ⟨k,hk⟩
 dsimp only at hd
 by_cases h3:m<10
 ·have e:Lib.decDigits m=[UInt8.ofNat (48+m)]:=by rw [Lib.decDigits,dif_pos h3]
  rw [e]
  exact ⟨letters_word (fun d hm=>by rw [List.mem_singleton.1 hm];exact (hd m h3).1) (hd m h3).2,by simp⟩
 ·have e:Lib.decDigits m=[UInt8.ofNat (48+m / 10),UInt8.ofNat (48+m % 10)]:=by
   rw [Lib.decDigits,dif_neg h3,Lib.decDigits,dif_pos (by omega)];rfl
  rw [e]
  have a:=hd (m / 10) (by omega);have b:=hd (m % 10) (by omega)
  refine ⟨letters_word (fun d hm=>?_) a.2,by simp⟩
  rcases List.mem_cons.1 hm with rfl|hm
  ·exact a.1
  ·rw [List.mem_singleton.1 hm];exact b.1
theorem risT_names:∀ (l:List Str) (p:Option Str),risT p l=true→∀ s,s ∈ l→isName s=true
 | [],_,_,s,h=>by cases h
 | x::t,p,hr,s,h=>by
  rw [risT_cons] at hr
  simp only [Bool.and_eq_true] at hr
  rcases List.mem_cons.1 h with rfl|h
  ·exact hr.1.1
  ·exact risT_names t _ hr.2 s h
theorem joinT_mem:∀ (l:List Str) (b:Bool) (s:Str),s ∈ joinT b l→s=[44]∨s ∈ l
 | [],_,_,h=>by cases h
 | x::t,b,s,h=>by
  unfold joinT at h
  rcases List.mem_append.1 h with h|h
  ·cases b
   ·simp only [Bool.false_eq_true,if_false,List.mem_cons,List.not_mem_nil,or_false] at h
    rcases h with h|h
    ·exact .inl h
    ·exact .inr (by simp [h])
   ·simp only [if_true,List.mem_cons,List.not_mem_nil,or_false] at h
    exact .inr (by simp [h])
  ·rcases joinT_mem t false s h with h|h
   ·exact .inl h
   ·exact .inr (List.mem_cons_of_mem _ h)
theorem body_ok {v:Iv} (hv:IvGood v) (hr:ivRight v=true):(∀ w,w ∈ ivBody v→RxWord w)∧(ivBody v).length≤6000:=by
 have hr':=hr
 unfold ivRight at hr'
 simp only [Bool.and_eq_true,decide_eq_true_eq] at hr'
 obtain ⟨⟨⟨⟨⟨⟨h1,h2⟩,h3⟩,h4⟩,h5⟩,h6⟩,h7⟩:=hr'
 obtain ⟨k1,k2,k3⟩:=check_0 hv.path
 refine ⟨fun w hw=>?_, ?_⟩
 ·unfold ivBody at hw
  rcases List.mem_append.1 hw with hw|hw
  ·rcases List.mem_append.1 hw with hw|hw
   ·rcases List.mem_append.1 hw with hw|hw
    ·simp only [headW,List.mem_cons,List.not_mem_nil,or_false] at hw
     rcases hw with rfl|rfl|rfl|rfl|rfl
     ·exact ⟨by decide,by decide⟩
     ·exact RxWord.name h1
     ·exact ⟨by decide,by decide⟩
     ·exact cube_word h2
     ·exact ⟨by decide,by decide⟩
    ·rcases joinT_mem _ _ _ hw with rfl|hw
     ·exact ⟨by decide,by decide⟩
     ·exact RxWord.name (risT_names _ _ h7 w hw)
   ·simp only [midW,List.mem_cons,List.not_mem_nil,or_false] at hw
    rcases hw with rfl|rfl|rfl|rfl|rfl|rfl
    ·exact ⟨by decide,by decide⟩
    ·exact num_word (by omega) (by omega)
    ·exact ⟨by decide,by decide⟩
    ·unfold signT
     split
     ·exact ⟨by decide,by decide⟩
     ·split<;>exact ⟨by decide,by decide⟩
    ·exact num_word (by omega) (by omega)
    ·exact ⟨by decide,by decide⟩
  ·exact Rx.body_words _ k3 w hw
 ·have a:=joinT_len true v.ing
  have b:=Rx.body_len v.path
  have c:=hv.len
  simp only [ivBody,headW,midW,List.length_append,List.length_cons,List.length_nil]
  omega
def lineD (v:Iv):D:=if ivForm v=0 then .tup [.str (sayW (ivBody v)),.int .i64 0] else .tup [.str [],.int .i64 (ivForm v)]
theorem s19 (v:Iv) (hv:IvWell v) (A:St):f19 (encIv v) A=some (.ret (lineD v),A):=by
 have hf:=fun A=>s20 v hv A
 have hcn:(encIv v).canon=encIv v:=(plainIv v).canon
 unfold f19 n19 lineD;dsimp only
 refine qbb ?_
 by_cases h:ivForm v=0
 ·rw [if_pos h]
  rw [h] at hf
  obtain ⟨hg,hr⟩:=ivGood hv h
  obtain ⟨hb,hbl⟩:=body_ok hg hr
  have hw:=fun A=>s47 v hg A
  have hsy:=fun A=>s46 A (ivBody v) (by omega) hb
  have hsc:=str_canon (ivBody v) 1
  (repeat' first|(with_reducible first|apply qa3|apply qa1|apply qai|apply qaa (b:=false)|apply qan|(apply tot_neq_t;omega))|((conv=>arg 2;arg 1;simp (disch:=first|omega|assumption) only [qa7,ldc0,ext0,extS,ivbx,ivcA,hcn,r20,hf,r47,hw,hsc,r46,hsy]);(with_reducible apply qac)))
  ((try conv=>arg 2;simp (disch:=first|omega|assumption) only [qae,qao,shut_strD,shut_tup,qby,qbv,qam,qad,qaj,qat,qb7,qbu,qbm,qab,qah,List.take_left']);refine qal ?_)
  rfl
 ·rw [if_neg h]
  (repeat' first|(with_reducible first|apply qa3|apply qa1|apply qai|apply qaa (b:=true)|apply qap|(apply tot_neq_f;omega))|((conv=>arg 2;arg 1;simp (disch:=first|omega|assumption) only [qa7,ldc0,ivbx,ivcA,hcn,r20,hf]);(with_reducible apply qac)))
  ((try conv=>arg 2;simp (disch:=first|omega|assumption) only [qae,qao,shut_strD,shut_tup,qby,qbv,qam,qad,qaj,qat,qb7,qbu,qbm,qab,qah,List.take_left']);refine qal ?_)
  rfl
end Go.Vm.Rx

/- The line of an invariant: the program's text. -/
namespace Go.Vm.Rx
open Go Go.Proofs P
set_option maxRecDepth 10000
set_option maxHeartbeats 4000000
theorem own_can (A:St) (ws:List Str):(ownS A ws).canon=encL 1 (ws.map .str):=canon_sl (plainStr ws) _ _
section
variable (A:St) (s0:Slot) (ws:List Word) (hl:ws.length≤10000)
include hl
theorem s18_end (acc:List Str) (hal:acc.length≤10000) (haw:∀ w,w ∈ acc→RxWord w):LP Tryz.prog rxA 18 [0,1,0,1,1,1,1,1,1,1] [A] (Env.mk (sp [(5,ownS A acc),(65,encL 1 ([ws].map encRow)),(0,.int .i64 ((1:Nat):Int)),(0,.int .i64 1)] 20) []) (A++[s0,.tok acc.length])=some (.ret (.tup [.str (sayW acc),.int .i64 0]),A):=by
 have hcn:=own_can A acc
 have hsy:=fun A=>s45 A acc (by omega) haw
 refine qbb (qbh (q18_1 ..) ?_)
 unfold n18_1;dsimp only
 (repeat' first|(with_reducible first|apply qa1|apply qai|apply qaa (b:=false)|apply qan)|((conv=>arg 2;arg 1;simp (disch:=first|omega|assumption) only [Option.map_some,qax,qa6,qa9,qa8,ext0,extS,hcn,r45,hsy]);(with_reducible first|apply qac|(apply qa2;omega))))
 ((try conv=>arg 2;simp (disch:=first|omega|assumption) only [qae,qao,shut_strD,shut_tup,qby,qbv,qam,qad,qaj,qat,qb7,qbu,qbm,qab,qah,List.take_left']);refine qal ?_)
 rfl
theorem s18_in (n0:Nat):∀ (t:List Word) (k:Nat) (acc:List Str),ws.drop k=t→acc.length+t.length≤10000→(∀ w,w ∈ acc++t.map Word.t→RxWord w) →
  LP Tryz.prog rxA 18 [0,1,1,0,0,1,1,0,0,1,0,1,1,1,1,1,1,1] [(A++[s0,.tok n0]),A] (Env.mk (sp [(5,ownS A acc),(65,encL 1 ([ws].map encRow)),(0,.int .i64 ((1:Nat):Int)),(0,.int .i64 0),(3,encL 3 (ws.map encW)),(0,.int .i64 (ws.length:Nat)),(0,.int .i64 (k:Nat))] 14) []) (A++[s0,.tok acc.length])=some (.ret (.tup [.str (sayW (acc++t.map Word.t)),.int .i64 0]),A):=by
 have hrs:∀ n,(encL 1 ([ws].map encRow)).shut n=encL 1 ([ws].map encRow):=fun n=>(encL_plain (plainRows [ws]) 1).shut n
 have hws:=ws_shut ws 3
 intro t
 induction t with
 | nil =>
  intro k acc ht hb hw
  have h1:=qb1 ht
  have hos:=own_shut A acc (n:=A.length+2) (by omega)
  have hkp:=fun n=>own_kept A s0 n0 n
  have htk:=fun s1=>own_take A s0 s1
  simp only [List.map_nil,List.append_nil] at hw ⊢
  have hend:=s18_end A s0 ws hl acc (by simp at hb;omega) hw
  refine qbb (qbh (q18_2 ..) ?_)
  unfold n18_2;dsimp only
  (repeat' first|(with_reducible first|apply tp_gk|apply qaa (b:=false)|apply qan)|((conv=>arg 2;arg 1;simp (disch:=first|omega|assumption) only [qbe,qa5,qa6,qa9,qa8,Int.reduceAdd,hkp]);(with_reducible first|apply qac|apply qbg|(apply qa2;omega))))
  refine qay ?_
  conv=>lhs;simp (disch:=first|omega|assumption) only [qao,qbr,List.map_nil,Nat.zero_add,List.length_append,List.length_cons,List.length_nil,qa6,qa9,qa8,Nat.reduceAdd,hos,hrs,htk]
  exact hend
 | cons w t ih =>
  intro k acc ht hb hw
  have h1:=qbz ht
  simp only [List.length_cons] at hb
  have hx:=qb6 (f:=encW) ht 3 true .i64
  have hwt:ofCells false (cellsW w) 0 1=some (.str w.t):=rfl
  have hls:layCells true 3 0 [D.str [],.int .i64 0,.int .i64 0] (encW w)=some (cellsW w):=rfl
  have hos:=own_shut A (acc++[w.t]) (n:=A.length+2) (by omega)
  have hap:=fun L=>own_app A s0 acc [w.t] L (own_lit w.t) (by simp;omega)
  have hkp:∀ m n c,Kept (A++[s0,.tok m]) (A++[s0,.tok n,c])↔True:=fun m n c=>iff_true_intro (Kept_tail (by simp) fun i hi=>by
   match i,hi with
   | 0,_=>exact .inl rfl
   | 1,_=>exact .inr ⟨_,rfl,rfl⟩
   | i+2,h=>simp only [List.length_cons,List.length_nil] at h;omega)
  have htk:∀ s1 c,(A++[s0,s1,c]).take (A.length+2)=A++[s0,s1]:=fun s1 c=>by
   have e:A++[s0,s1,c]=(A++[s0,s1])++[c]:=by simp
   rw [e,List.take_append_of_le_length (by simp),List.take_of_length_le (by simp)]
  have e:acc++(w::t).map Word.t=acc++[w.t]++t.map Word.t:=by simp
  rw [e] at hw ⊢
  have hih:=ih (k+1) (acc++[w.t]) (qbi ht) (by simp;omega) hw
  simp only [List.length_append,List.length_cons,List.length_nil,Nat.zero_add] at hap hih
  refine qbb (qbh (q18_2 ..) ?_)
  unfold n18_2;dsimp only
  (repeat' first|(with_reducible first|apply qa3|apply tp_gk|apply qaa (b:=true)|apply qap)|((conv=>arg 2;arg 1;simp (disch:=first|omega|assumption) only [qbe,qa5,qaf,qav,Nat.zero_add,Nat.add_zero,qbp,List.length_append,List.length_cons,List.length_nil,qa6,qa9,qa8,qbc,qbs,qbl,qbf,ld_sh,ldc0,ldcS,sto_sh,stoc0,stocS,qb4,Nat.reduceAdd,hx,cellW,loadW,hls,hwt,hap,hkp]);(with_reducible first|apply qac|apply qbg|(apply qas;omega))))
  refine qay ?_
  conv=>lhs;simp (disch:=first|omega|assumption) only [qao,qbr,List.map_nil,Nat.zero_add,List.length_append,List.length_cons,List.length_nil,qa6,qa9,qa8,Nat.reduceAdd,hos,hrs,hws,htk]
  exact hih
theorem s18_row (acc:List Str) (hb:acc.length+ws.length≤10000) (hw:∀ w,w ∈ acc++ws.map Word.t→RxWord w):LP Tryz.prog rxA 18 [0,1,0,1,1,1,1,1,1,1] [A] (Env.mk (sp [(5,ownS A acc),(65,encL 1 ([ws].map encRow)),(0,.int .i64 ((1:Nat):Int)),(0,.int .i64 0)] 20) []) (A++[s0,.tok acc.length])=some (.ret (.tup [.str (sayW (acc++ws.map Word.t)),.int .i64 0]),A):=by
 have hin:=s18_in A s0 ws hl acc.length ws 0 acc rfl hb hw
 have hix:indexAddrO 1 false (encL 1 ([ws].map encRow)) (.int .i64 0)=some (.peek [encRow ws]):=rfl
 have hrw:ofCells false [encRow ws] 0 1=some (encL 3 (ws.map encW)):=rfl
 refine qbb (qbh (q18_1 ..) ?_)
 unfold n18_1;dsimp only
 (repeat' first|(with_reducible first|apply qa3|apply qaa (b:=true)|apply qap)|((conv=>arg 2;arg 1;simp (disch:=first|omega|assumption) only [qav,qa6,qa9,qa8,qa0,List.length_map,hix,hrw]);(with_reducible first|apply qac|(apply qas;omega))))
 (refine qay ?_;(conv=>lhs;simp only [qa6,qa9,qa8]);exact hin)
end
theorem s18_loop (v:Iv) (hv:IvGood v) (A:St):∀ (t:List Str) (i:Nat) (acc:List Str) (y:D),v.ing.drop i=t→i≤v.ing.length→acc.length+2 * t.length≤4000→(∀ w,w ∈ acc++joinT (decide (i=0)) t++midW v++v.path.body→RxWord w) →
  LP Tryz.prog rxA 18 [0,1,0,1,1,1] [A] (Env.mk (sp [(1,.ref A.length 0),(3,ownS A acc),(23,encL 1 (v.ing.map .str)),(0,.int .i64 (v.ing.length:Nat)),(0,.int .i64 (i:Nat))] 62) []) (A++[.cells (ivC v),.tok acc.length])=some (.ret (.tup [.str (sayW (acc++joinT (decide (i=0)) t++midW v++v.path.body)),.int .i64 0]),A):=by
 have hlen:=hv.len
 have hh:=hv.hops;have hc:=hv.cnt
 have hrs:(D.ref A.length 0).shut (A.length+2)=.ref A.length 0:=shut_ref _ (by omega)
 have his:=str_shut v.ing 1
 intro t
 induction t with
 | nil =>
  intro i acc y ht hil hb hw
  have h1:=qb1 ht
  obtain ⟨ws,hx,hwt,hsl,hwl⟩:=path_row hv.path
  have hi1:=fun A=>itoa_run (n:=v.hops) (by omega) (by omega) A
  have hi2:=fun A=>itoa_run (n:=v.cnt) (by omega) (by omega) A
  have hsg:=fun A=>s43 v.cmp A
  have hpr:=fun A=>s44 v.path hv.well.ok.1 A
  rw [print_0 hv.path] at hpr
  have hli:=fun A=>s23 (sayW v.path.body) (by omega) _ hx A
  simp only [linesRes,List.nil_append] at hli
  have hspt:sliceParts 1 false 0 [(0,.str [104,111,112,115]),(1,.str (numT v.hops)),(2,.str [99,111,117,110,116]),(3,.str (signT v.cmp)),(4,.str (numT v.cnt)),(5,.str [112,97,116,104])]=some ((midW v).map .str):=rfl
  have hap:=own_app A (.cells (ivC v)) acc (midW v) (y:=.sl .full 1 ((midW v).map .str)) [] (by simp [appendNew,esOk]) (by simp only [midW,List.length_cons,List.length_nil];simp only [List.length_nil] at hb;omega)
  have e:acc++joinT (decide (i=0)) []++midW v++v.path.body=acc++midW v++v.path.body:=by simp [joinT]
  rw [e] at hw ⊢
  rw [← hwt] at hw
  have hrow:=s18_row A (.cells (ivC v)) ws (by omega) (acc++midW v) (by simp only [midW,List.length_append,List.length_cons,List.length_nil];simp only [List.length_nil] at hb;omega) hw
  rw [hwt] at hrow
  generalize hmid:midW v=mid at *
  simp only [List.length_append] at hap hrow
  refine qbb (qbh (q18_0 ..) ?_)
  unfold n18_0;dsimp only
  (repeat' first|(with_reducible first|apply qa3|apply qa1|apply tp_gs0|apply tp_gs1|apply qaa (b:=false)|apply qan)|((conv=>arg 2;arg 1;simp (disch:=first|omega|assumption) only [qaf,Nat.zero_add,List.length_cons,List.length_nil,sameAd_refl,qa6,qa9,qa8,qaj,qat,qa0,qa7,ldc0,List.length_map,ext0,extS,ivc3,ivc4,ivc5,ivc6,hi1,hi2,r43,hsg,hspt,hap,qb2,r44,hpr,r23,hli]);(with_reducible first|apply qac|apply qbg|(apply qa2;omega))))
  (refine qay ?_;(conv=>lhs;simp only []);exact hrow)
 | cons x t ih =>
  intro i acc y ht hil hb hw
  have h1:=qbz ht
  simp only [List.length_cons] at hb
  have hx:=qb6 (f:=D.str) ht 1 false .i64
  have hkp:=fun m n=>own_kept A (.cells (ivC v)) m n
  have htk:=fun s1=>own_take A (.cells (ivC v)) s1
  by_cases h0:i=0
  ·subst h0
   have hap:=own_app A (.cells (ivC v)) acc [x] [] (own_lit x) (by simp;omega)
   have hos:=own_shut A (acc++[x]) (n:=A.length+2) (by omega)
   have e:acc++joinT (decide (0=0)) (x::t)++midW v++v.path.body=acc++[x]++joinT (decide (0+1=0)) t++midW v++v.path.body:=by simp [joinT]
   rw [e] at hw ⊢
   have hih:=ih (0+1) (acc++[x]) y (qbi ht) (by omega) (by simp;omega) hw
   simp only [List.length_append,List.length_cons,List.length_nil,Nat.zero_add] at hap hih
   refine qbb (qbh (q18_0 ..) ?_)
   unfold n18_0;dsimp only
   (repeat' first|(with_reducible first|(apply tot_jn;intro hkk hke)|(apply tot_jk;· assumption)|apply qa3|apply tp_gk|apply qaa (b:=true)|apply qaa (b:=false)|apply qap|apply qan)|((conv=>arg 2;arg 1;simp (disch:=first|omega|assumption) only [qbe,qa5,qav,qa4,qa6,qa9,qa8,qbc,cell_str,qb4,eg_0,eg_S,hx,hap,hkp]);(with_reducible first|apply qac|apply qbg|(apply qas;omega)|(apply qbo;omega))))
   refine qay ?_
   conv=>lhs;simp (disch:=first|omega|assumption) only [qao,qbr,List.map_nil,Nat.zero_add,List.length_append,List.length_cons,List.length_nil,qa6,qa9,qa8,Nat.reduceAdd,eg_0,eg_S,hos,hrs,his,htk]
   exact hih
  ·have hap:=fun L=>own_app A (.cells (ivC v)) acc [[44]] L (own_lit [44]) (by simp;omega)
   have hap2:=fun L=>own_app A (.cells (ivC v)) (acc++[[44]]) [x] L (own_lit x) (by simp;omega)
   have hos:=own_shut A (acc++[[44]]++[x]) (n:=A.length+2) (by omega)
   have e:acc++joinT (decide (i=0)) (x::t)++midW v++v.path.body=acc++[[44]]++[x]++joinT (decide (i+1=0)) t++midW v++v.path.body:=by simp [joinT,h0]
   rw [e] at hw ⊢
   have hih:=ih (i+1) (acc++[[44]]++[x]) y (qbi ht) (by omega) (by simp;omega) hw
   simp only [List.length_append,List.length_cons,List.length_nil,Nat.zero_add] at hap hap2 hih
   refine qbb (qbh (q18_0 ..) ?_)
   unfold n18_0;dsimp only
   (repeat' first|(with_reducible first|(apply tot_jn;intro hkk hke)|(apply tot_jk;· assumption)|apply qa3|apply tp_gk|apply qaa (b:=true)|apply qap)|((conv=>arg 2;arg 1;simp (disch:=first|omega|assumption) only [qbe,qa5,qav,qa4,qa6,qa9,qa8,qbc,cell_str,qb4,eg_0,eg_S,hx,hap,hap2,hkp]);(with_reducible first|apply qac|apply qbg|(apply qas;omega)|(apply qbx;omega))))
   refine qay ?_
   conv=>lhs;simp (disch:=first|omega|assumption) only [qao,qbr,List.map_nil,Nat.zero_add,List.length_append,List.length_cons,List.length_nil,qa6,qa9,qa8,Nat.reduceAdd,eg_0,eg_S,hos,hrs,his,htk]
   exact hih
theorem s18 (v:Iv) (hv:IvWell v) (A:St):f18 (encIv v) A=some (.ret (lineD v),A):=by
 have hf:=fun A=>s14 v hv A
 have hcn:(encIv v).canon=encIv v:=(plainIv v).canon
 unfold f18 n18 lineD;dsimp only
 refine qbb ?_
 by_cases h:ivForm v=0
 ·rw [if_pos h]
  rw [h] at hf
  obtain ⟨hg,hr⟩:=ivGood hv h
  obtain ⟨hb,hbl⟩:=body_ok hg hr
  have hlen:=hg.len
  have hlo:=s18_loop v hg A v.ing 0 (headW v) (.tup []) rfl (by omega) (by simp only [headW,List.length_cons,List.length_nil];omega) hb
  have hspt:sliceParts 1 false 0 [(0,.str [105,110,118,97,114,105,97,110,116]),(1,.str v.nm),(2,.str [112,97,99,107,101,116,115]),(3,.str v.pk),(4,.str [102,114,111,109])]=some ((headW v).map .str):=rfl
  have htk:∀ S,tokO [(0,1)] (.sl .full 1 ((headW v).map .str)) S=some (.sl (.own S.length 0) 1 ((headW v).map .str),S++[.tok (headW v).length]):=fun S=>rfl
  (repeat' first|(with_reducible first|apply qa3|apply qa1|apply qaa (b:=false)|apply qan|(apply tot_neq_t;omega))|((conv=>arg 2;arg 1;simp (disch:=first|omega|assumption) only [qaf,Nat.zero_add,Nat.add_zero,List.length_append,List.length_cons,List.length_nil,qa0,qbs,qbl,qbf,qa7,ldc0,List.length_map,ivbx,ivc0,ivc1,ivc2,ivcA,hcn,r14,hf,hspt,htk]);(with_reducible apply qac)))
  refine qay ?_
  conv=>lhs;simp only []
  exact hlo
 ·rw [if_neg h]
  (repeat' first|(with_reducible first|apply qa3|apply qa1|apply qai|apply qaa (b:=true)|apply qap|(apply tot_neq_f;omega))|((conv=>arg 2;arg 1;simp (disch:=first|omega|assumption) only [qa7,ldc0,ivbx,ivcA,hcn,r14,hf]);(with_reducible apply qac)))
  ((try conv=>arg 2;simp (disch:=first|omega|assumption) only [qae,qao,shut_strD,shut_tup,qby,qbv,qam,qad,qaj,qat,qb7,qbu,qbm,qab,qah,List.take_left']);refine qal ?_)
  rfl
end Go.Vm.Rx

/- What invariants among the arguments stand for. -/
namespace Go.Vm.Rx
open Go Go.Proofs Go.Proofs.YtagmpieoalkneaaGreatDoor P
set_option maxRecDepth 100000
variable {H:Type} {enc:TypeId×Value→H} {w:World} {spare:Nat→Bool} {held:Bool}
mutual
def wt:Rx→Nat|.mk _ nm ks=>nm.length+1+wts ks
def wts:List Rx→Nat|[]=>0|k::ks=>wt k+wts ks
end
mutual
theorem wt_ok:∀ r:Rx,wt r≤100000000→r.Ok
 | .mk op nm ks,h=>by
  unfold wt at h
  have:=wts_len ks
  exact ⟨by omega,by omega,wts_ok ks (by omega)⟩
theorem wts_ok:∀ ks:List Rx,wts ks≤100000000→Rx.Oks ks
 | [],_=>trivial
 | k::ks,h=>by
  unfold wts at h
  exact ⟨wt_ok k (by omega),wts_ok ks (by omega)⟩
theorem wts_len:∀ ks:List Rx,ks.length≤wts ks
 | []=>by simp
 | k::ks=>by
  have:=wts_len ks
  unfold wts
  have h1:1≤wt k:=by cases k;unfold wt;omega
  simp only [List.length_cons];omega
end
theorem three_cells {cs:List Value} (h:cs.length=3):∃ a b c,cs=[a,b,c]:=by
 match cs,h with
 | [a,b,c],_=>exact ⟨a,b,c,rfl⟩
theorem canon_sl' (o:Own) (n:Nat) (ds:List D):(D.sl o n ds).canon=encL n (D.canonL ds):=by cases ds<;>rfl
theorem rxs_of {ds:List D} (els:List (DataW H)):ds.length=els.length→(∀ (i:Nat) d,ds[i]?=some d→∃ y,els[i]?=some y∧∃ r:Rx,d.canon=encRx r∧wt r≤Rows.uptoBulk y) →
  ∃ l:List Rx,D.canonL ds=l.map encRx∧wts l≤Rows.uptoBulkAll els:=by
 induction ds generalizing els with
 | nil=>exact fun _ _=>⟨[],rfl,by unfold wts;omega⟩
 | cons d ds ih =>
  intro hl h
  cases els with
  | nil=>simp at hl
  | cons e els =>
   obtain ⟨y,hy,r,hr,hb⟩:=h 0 d rfl
   simp only [List.getElem?_cons_zero,Option.some.injEq] at hy
   subst hy
   obtain ⟨l,hl1,hl2⟩:=ih els (by simpa using hl) fun i d hi=>by
    obtain ⟨y,hy,q⟩:=h (i+1) d (by simpa using hi)
    exact ⟨y,by simpa using hy,q⟩
   refine ⟨r::l,by rw [qbm,hr,hl1];rfl, ?_⟩
   unfold Rows.uptoBulkAll wts
   omega
theorem one_cell {d:D} {v:Value} (h:Rep (g0 w) w d v) (hd:(∃ o n ds,d=.sl o n ds)∨∃ s,d=.str s):v.oneCell'=true∧v.cells=#[v]:=by
 rcases hd with ⟨o,n,ds,rfl⟩|⟨s,rfl⟩
 ·unfold Rep at h
  obtain ⟨a',cap,rfl,_⟩:=h
  exact ⟨rfl,rfl⟩
 ·unfold Rep at h
  obtain ⟨x,rfl,_⟩:=h
  exact ⟨rfl,rfl⟩
theorem arg_rx:∀ {fuel:Nat} {cs:List Value} {x:DataW H×List MemPlace},DataW.trod enc Tryz.prog w 0 spare held fuel 38 cs=some x →
  ∃ (d:D) (v:Value),v.cells.toList=cs∧VC 3 v∧Rep (g0 w) w d v∧(∃ r:Rx,d.canon=encRx r∧wt r≤Rows.uptoBulk x.1)∧∃ (c:Array Value) (ds3:List D),v=.agg c∧d=.agg ds3:=by
 intro fuel
 induction fuel using Nat.strongRecOn with
 | _ fuel ih =>
 intro cs x h
 cases fuel with
 | zero=>cases h
 | succ fuel =>
  obtain ⟨hl,xs,hxl,hxa,hf⟩:=trod_struct_f Tryz.underlying38 h
  have cR:Tryz.prog.cellsOf 38=3:=by kernel_rfl
  rw [cR] at hl
  obtain ⟨a,b,c,rfl⟩:=three_cells hl
  obtain ⟨y0,g0',t0⟩:=hf 0 _ rfl
  obtain ⟨y1,g1',t1⟩:=hf 1 _ rfl
  obtain ⟨y2,g2',t2⟩:=hf 2 _ rfl
  have cO:Tryz.prog.cellsOf 35=1:=by kernel_rfl
  have c9:Tryz.prog.cellsOf 9=1:=by kernel_rfl
  have cK:Tryz.prog.cellsOf 36=1:=by kernel_rfl
  simp only [cO,c9,cK] at t0 t1 t2
  obtain ⟨n,e0,_,_⟩:=trod_int Tryz.underlying35 t0
  obtain ⟨s,v1,e1,_,_,r1,b1⟩:=arg_str t1
  cases fuel with
  | zero=>cases t2
  | succ fuel =>
   obtain ⟨ds,v2,e2,r2,_,q2⟩:=slice_rep_f Tryz.underlying36 (n:=3) (by kernel_rfl) (by omega) t2 (fun d y=>∃ r:Rx,d.canon=encRx r∧wt r≤Rows.uptoBulk y) (by
    intro cells y hl hy
    obtain ⟨d,v,q1,q2,q3,q4,_⟩:=ih fuel (by omega) hy
    exact ⟨d,v,q1,q2,q3,q4⟩)
   simp only [List.drop_zero,List.take_succ_cons,List.take_zero,List.drop_succ_cons,List.cons.injEq,and_true] at e0 e1 e2
   subst e0 e1 e2
   obtain ⟨l,hl1,hl2⟩:∃ l:List Rx,D.canonL ds=l.map encRx∧wts l+1≤Rows.uptoBulk y2.1:=by
    rcases q2 with ⟨hx2,rfl⟩|⟨els,rest,hx2,hle,hq⟩
    ·exact ⟨[],rfl,by rw [hx2];unfold Rows.uptoBulk wts;omega⟩
    ·obtain ⟨l,k1,k2⟩:=rxs_of els hle.symm hq
     exact ⟨l,k1,by rw [hx2];unfold Rows.uptoBulk;omega⟩
   refine ⟨.agg [.int .i64 n,.str s,.sl .sh 3 ds],.agg #[.int .i64 n,b,c],rfl,⟨rfl,fun z hz=>?_⟩, ?_,⟨.mk n s l, ?_, ?_⟩,_,_,rfl,rfl⟩
   ·have:z=.int .i64 n∨z=b∨z=c:=by simpa [Value.cells] using hz
    rcases this with rfl|rfl|rfl
    ·rfl
    ·exact (one_cell r1 (.inr ⟨_,rfl⟩)).1
    ·exact (one_cell r2 (.inl ⟨_,_,_,rfl⟩)).1
   ·unfold Rep
    refine ⟨_,rfl, ?_⟩
    unfold RepL
    refine ⟨_,_,rfl,by unfold Rep;rfl, ?_⟩
    unfold RepL
    refine ⟨_,_,rfl,r1, ?_⟩
    unfold RepL
    refine ⟨_,_,rfl,r2, ?_⟩
    unfold RepL
    rfl
   ·simp only [canon_agg,qbm,qbu,qaj,qat,canon_sl',hl1,encRx_mk]
   ·rw [hxa]
    match xs,hxl,g0',g1',g2' with
    | [z0,z1,z2],_,p0,p1,p2 =>
     simp only [List.getElem?_cons_succ,List.getElem?_cons_zero,Option.some.injEq] at p0 p1 p2
     subst p0 p1 p2
     simp only [List.map_cons,List.map_nil,Rows.uptoBulk,Rows.uptoBulkAll]
     unfold wt
     omega
theorem strs_of {ds:List D} (els:List (DataW H)):ds.length=els.length→(∀ (i:Nat) d,ds[i]?=some d→∃ y,els[i]?=some y∧∃ s:Str,d=.str s∧s.length≤Rows.uptoBulk y) →
  ∃ l:List Str,ds=l.map .str∧l.length≤Rows.uptoBulkAll els∧∀ s,s ∈ l→s.length≤Rows.uptoBulkAll els:=by
 induction ds generalizing els with
 | nil=>exact fun _ _=>⟨[],rfl,by simp,fun s hs=>by cases hs⟩
 | cons d ds ih =>
  intro hl h
  have hbl:=bulk_len els
  cases els with
  | nil=>simp at hl
  | cons e els =>
   obtain ⟨y,hy,r,hr,hrb⟩:=h 0 d rfl
   simp only [List.getElem?_cons_zero,Option.some.injEq] at hy
   subst hy
   obtain ⟨l,hl1,hl2,hl3⟩:=ih els (by simpa using hl) fun i d hi=>by
    obtain ⟨y,hy,q⟩:=h (i+1) d (by simpa using hi)
    exact ⟨y,by simpa using hy,q⟩
   have hl4:l.length=ds.length:=by rw [hl1];simp
   refine ⟨r::l,by rw [hr,hl1];rfl, ?_,fun s hs=>?_⟩
   ·simp only [List.length_cons] at hl hbl ⊢;omega
   ·unfold Rows.uptoBulkAll
    rcases List.mem_cons.1 hs with rfl|hs
    ·omega
    ·have:=hl3 s hs;omega
theorem arg_strs {fuel:Nat} {cs:List Value} {x:DataW H×List MemPlace} (h:DataW.trod enc Tryz.prog w 0 spare held fuel 34 cs=some x) :
  ∃ (l:List Str) (v:Value),cs=[v]∧Rep (g0 w) w (.sl .sh 1 (l.map .str)) v∧l.length≤Rows.uptoBulk x.1∧∀ s,s ∈ l→s.length≤Rows.uptoBulk x.1:=by
 obtain ⟨ds,v,h1,h2,h3,h4⟩:=slice_rep Tryz.underlying34 (n:=1) (by kernel_rfl) (by omega) h (fun d y=>∃ s:Str,d=.str s∧s.length≤Rows.uptoBulk y) (by
  intro fu cells y hl hy
  obtain ⟨s,v1,e0,e1,e2,r0,b0⟩:=arg_str hy
  exact ⟨.str s,v1,e2,e1,r0,s,rfl,by omega⟩)
 rcases h4 with ⟨hx,rfl⟩|⟨els,rest,hx,hl,hq⟩
 ·exact ⟨[],v,h1,h2,by simp,fun s hs=>by cases hs⟩
 ·obtain ⟨l,rfl,k1,k2⟩:=strs_of els hl.symm hq
  refine ⟨l,v,h1,h2, ?_,fun s hs=>?_⟩
  ·rw [hx];unfold Rows.uptoBulk;omega
  ·rw [hx];unfold Rows.uptoBulk;have:=k2 s hs;omega
theorem nine_cells {cs:List Value} (h:cs.length=9):∃ a b c d e f g h i,cs=[a,b,c,d,e,f,g,h,i]:=by
 match cs,h with
 | [a,b,c,d,e,f,g,h,i],_=>exact ⟨a,b,c,d,e,f,g,h,i,rfl⟩
def IvB (n:Nat) (v:Iv):Prop:=v.nm.length≤n∧v.pk.length≤n∧v.ing.length≤n∧(∀ s,s ∈ v.ing→s.length≤n)∧wt v.path≤n
theorem IvB.mono {n m:Nat} {v:Iv} (h:IvB n v) (hm:n≤m):IvB m v:=⟨Nat.le_trans h.1 hm,Nat.le_trans h.2.1 hm,Nat.le_trans h.2.2.1 hm,fun s hs=>Nat.le_trans (h.2.2.2.1 s hs) hm,Nat.le_trans h.2.2.2.2 hm⟩
theorem IvB.well {n:Nat} {v:Iv} (h:IvB n v) (hn:n≤100000000):IvWell v :=
 ⟨⟨wt_ok _ (Nat.le_trans h.2.2.2.2 hn),Nat.le_trans h.2.2.1 hn⟩,Nat.le_trans h.1 hn,Nat.le_trans h.2.1 hn,fun s hs=>Nat.le_trans (h.2.2.2.1 s hs) hn⟩
end Go.Vm.Rx

/- Topologies: which may be;no program in sight. -/
namespace Go.Vm.P
structure Dev where
 nm:Str
 cl:List Str
 po:List Str
structure Lnk where
 a:Int
 p:Str
 b:Int
 q:Str
structure Top where
 w:Int
 ds:List Dev
 ls:List Lnk
def namesT (l:List Str) (most:Int):Bool:=risT none l && decide ((l.length:Int)≤most)
def devT (p:Option Str) (d:Dev):Bool:=isName d.nm && lessO p d.nm && namesT d.cl 16 && namesT d.po 64
def devsT:Option Str→List Dev→Bool
 | _,[]=>true
 | p,d::t=>devT p d && devsT (some d.nm) t
theorem devsT_cons (p:Option Str) (d:Dev) (t:List Dev):devsT p (d::t)=(devT p d && devsT (some d.nm) t):=rfl
def Lnk.bef (y x:Lnk):Bool:=decide (y.a<x.a∨y.a=x.a∧y.p<x.p)
def befO:Option Lnk→Lnk→Bool
 | none,_=>true
 | some y,x=>y.bef x
def portT (ds:List Dev) (a:Int) (p:Str):Bool:=decide (p ∈ (ds.getD a.toNat ⟨[],[],[]⟩).po)
def shapeT (n:Int) (x:Lnk):Bool:=decide (0≤x.a∧x.a≤x.b∧x.b<n∧(x.a=x.b→x.p<x.q))
abbrev LEnd:=Int×Str
def seenT (l:List LEnd) (e:LEnd):Bool:=decide (e ∈ l)
def lnkT (ds:List Dev) (prev:Option Lnk) (seen:List LEnd) (x:Lnk):Bool :=
 shapeT ds.length x && befO prev x && (!seenT seen (x.a,x.p) && portT ds x.a x.p) && (!seenT seen (x.b,x.q) && portT ds x.b x.q)
def lnksT (ds:List Dev):Option Lnk→List LEnd→List Lnk→Bool
 | _,_,[]=>true
 | prev,seen,x::t=>lnkT ds prev seen x && lnksT ds (some x) (seen++[(x.a,x.p),(x.b,x.q)]) t
theorem lnksT_cons (ds:List Dev) (prev:Option Lnk) (seen:List LEnd) (x:Lnk) (t:List Lnk):lnksT ds prev seen (x::t)=(lnkT ds prev seen x && lnksT ds (some x) (seen++[(x.a,x.p),(x.b,x.q)]) t):=rfl
def topT (t:Top):Bool :=
 decide (1≤t.w∧t.w≤128) && decide (1≤t.ds.length∧t.ds.length≤256) && devsT none t.ds && (lnksT t.ds none [] t.ls && decide (t.ls.length≤4096))
def topE (t:Top):Int:=if topT t=true then 0 else 113
def findT (nm:Str):List Dev→Option Nat
 | []=>none
 | d::t=>if d.nm=nm then some 0 else (findT nm t).map (·+1)
def endsT:List Lnk→List LEnd
 | []=>[]
 | x::t=>(x.a,x.p)::(x.b,x.q)::endsT t
theorem endsT_app:∀ a b:List Lnk,endsT (a++b)=endsT a++endsT b
 | [],b=>rfl
 | x::a,b=>by simp only [List.cons_append,endsT,endsT_app a b]
end Go.Vm.P
