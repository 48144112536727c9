/- RxS29, RxS30, RxS31, RxS32, RxS33, RxS34, RxS60 in one text. -/
import Derived.Test.YtagmpieoalkneaaGreatDoorRxS28
import Derived.Test.YtagmpieoalkneaaGreatDoorRxI6
set_option linter.all false
/- What the program reads of words. -/
namespace Go.Vm.Rx
open Go Go.Proofs P
set_option maxRecDepth 10000
set_option maxHeartbeats 2000000
end Go.Vm.Rx

/- Rows as one row: slices.Concat. -/
namespace Go.Vm.Rx
open Go Go.Proofs P
set_option maxRecDepth 10000
set_option maxHeartbeats 2000000
theorem acc_leave {b:Option Nat} {A:St} {n:Nat} {ds:List D} (h:PlainL ds):leaveD RetK.own A (.ret (accD b A.length n ds)) (accA b A ds)=some (.ret (accD b A.length n ds),accA b A ds):=by
 cases b with
 | none =>
  have hk:Kept A (A++[.tok ds.length]):=(accA_Kept none A ds).2 trivial
  simp [leaveD,accD,accA,guardP,hk,h.shut]
 | some e =>
  have hk:Kept A A:=(accA_Kept (some 0) A ds).2 trivial
  simp [leaveD,accD,accA,guardP,hk,Res.shut,h.shut,Own.shut]
end Go.Vm.Rx

/- What the program parses a text as. -/
namespace Go.Vm.Rx
open Go Go.Proofs P
set_option maxRecDepth 10000
set_option maxHeartbeats 4000000
end Go.Vm.Rx

/- Which expressions are the same: both texts' answers. -/
namespace Go.Vm.Rx
open Go Go.Proofs P
set_option maxRecDepth 10000
set_option maxHeartbeats 2000000
end Go.Vm.Rx

/- Which expressions are the same: the program's answer. -/
namespace Go.Vm.Rx
open Go Go.Proofs P
set_option maxRecDepth 10000
set_option maxHeartbeats 2000000
end Go.Vm.Rx

/- Laws of path expressions: what texts and words are read as,which expressions are the same. -/
namespace Go.Vm.Rx
open Go Go.Proofs P
set_option maxRecDepth 10000
set_option maxHeartbeats 4000000
end Go.Vm.Rx

/- Cubes,numbers,signs: what both texts say of them. -/
namespace Go.Vm.Rx
open Go Go.Proofs P
set_option maxRecDepth 10000
set_option maxHeartbeats 2000000
theorem s49_loop (s:Str) (hs:s.length<4611686018427387904) (A:St):∀ (t:Str) (i:Nat),s.drop i=t →
  LP Tryz.prog rxA 49 [0,1,0,1] [A] (Env.mk (sp [(0,.str s),(2,.int .i64 (i:Nat))] 29) []) A=some (.ret (.bool (t.all cubeB && decide (s≠[]) && decide (s.length≤128))),A):=by
 intro t
 induction t with
 | nil =>
  intro i ht
  have hl:=qb1 ht
  refine qbb (qbh (q49_0 ..) ?_)
  unfold n49_0;dsimp only
  (repeat' first|(with_reducible first|apply qac|apply qa3|apply qaz|apply qai|apply qag (b:=true)|apply qag (b:=false)|apply qaa (b:=true)|apply qaa (b:=false)|apply qan|apply qbd|apply qbj|(apply tot_leq;all_goals intro hsp))|((conv=>arg 2;arg 1;simp only [qaq,qak,Option.map_some,qax,qb0,qa6,qa9,qa8]);(with_reducible first|apply qac|(apply qa2;omega)|(apply tot_sneq;all_goals intro hsp))))
  all_goals (((try conv=>arg 2;simp only [qae,qaw,qar,qad,List.take_length,qau,qab,qah]);refine qal ?_);simp [*]<;>omega)
 | cons c t ih =>
  intro i ht
  have hl:=qbz ht
  refine qbb (qbh (q49_0 ..) ?_)
  unfold n49_0;dsimp only
  have hx:=Vm.idxStr ht .i64
  have hc:cubeB c=decide (c.toNat=48∨c.toNat=49∨c.toNat=120):=rfl
  (repeat' first|(with_reducible first|apply qac|apply qa3|apply qaz|apply tp_gk|apply qai|apply qag (b:=true)|apply qag (b:=false)|apply qaa (b:=true)|apply qaa (b:=false)|apply qap|apply qan|apply qbd|apply qbj|(apply tot_neq;all_goals intro hsp))|((conv=>arg 2;arg 1;simp (disch:=first|omega|assumption) only [qaq,qak,Option.map_some,qbe,qa5,qar,qax,qb0,qa6,qa9,qa8,hx]);(with_reducible first|apply qac|apply qbg|apply qag (b:=true)|apply qag (b:=false)|apply qaa (b:=true)|apply qaa (b:=false)|(apply qas;omega))))
  all_goals first
   | (((try conv=>arg 2;simp only [qae,qaw,qar,qad,List.take_length,qau,qab,qah]);refine qal ?_);simp only [List.all_cons,hc];rw [decide_eq_false (by omega)];simp;done)
   | (refine qay ?_;(conv=>lhs;simp only [qao,qbr,shut_strD,List.take_length,List.map_nil,qa6]);have:=ih (i+1) (qbi ht);simp only [List.all_cons,hc];rw [decide_eq_true (by omega),Bool.true_and];exact this)
theorem s49 (s:Str) (hs:s.length<4611686018427387904) (A:St):f49 (.str s) A=some (.ret (.bool (isCube s)),A):=by
 unfold f49 n49;dsimp only
 refine qbb ?_
 skip
 (refine qay ?_;(conv=>lhs;simp only []);exact s49_loop s hs A s 0 rfl)
theorem s119_loop (s:Str) (hs:s.length<4611686018427387904) (A:St):∀ (t:Str) (i:Nat),s.drop i=t→i≤s.length →
  LP Tryz.prog rxA 119 [0,1,0,1,1] [A] (Env.mk (sp [(0,.str s),(0,.str [48,49,120]),(13,.int .i64 (s.length:Nat)),(0,.int .i64 (i:Nat))] 9) []) A=some (.ret (.bool (t.all cubeB)),A):=by
 intro t
 induction t with
 | nil =>
  intro i ht _
  have hl:=qb1 ht
  refine qbb (qbh (q119_0 ..) ?_)
  unfold n119_0;dsimp only
  (repeat' first|(with_reducible first|apply qai|apply qaa (b:=false)|apply qan)|((conv=>arg 2;arg 1;simp only [Option.map_some,qax,qa6,qa9,qa8]);(with_reducible first|apply qac|(apply qa2;omega))))
  all_goals (((try conv=>arg 2;simp only [qae,qaw,qar,qad,List.take_length,qau,qab,qah]);refine qal ?_);rfl)
 | cons c t ih =>
  intro i ht _
  have hl:=qbz ht
  refine qbb (qbh (q119_0 ..) ?_)
  unfold n119_0;dsimp only
  have hx:=Vm.idxStr ht .i64
  have hc:cubeB c=decide (0≤Lib.indexByte [48,49,120] c):=by
   rw [← idx_contains]
   unfold cubeB
   simp only [List.contains_cons,List.contains_nil,Bool.or_false]
   rw [Bool.eq_iff_iff]
   simp [byte_eq]
  (repeat' first|(with_reducible first|apply qa1|apply tp_gk|apply qai|apply qaa (b:=true)|apply qaa (b:=false)|apply qap|apply qan|(apply tot_lss;all_goals intro hsp))|((conv=>arg 2;arg 1;simp (disch:=first|omega|assumption) only [Option.map_some,qbe,qa5,qar,qax,qa6,qa9,qa8,qaj,qat,r139,s139,hx]);(with_reducible first|apply qac|apply qbg|(apply qas;omega))))
  all_goals first
   | (((try conv=>arg 2;simp only [qae,qaw,qar,qad,List.take_length,qau,qab,qah]);refine qal ?_);simp only [List.all_cons,hc];rw [decide_eq_false (by omega)];simp;done)
   | (refine qay ?_;(conv=>lhs;simp only [qao,qbr,shut_strD,List.take_length,List.map_nil,qa6,qa9,qa8]);have:=ih (i+1) (qbi ht) (by omega);simp only [List.all_cons,hc];rw [decide_eq_true (by omega),Bool.true_and];exact this)
theorem isCube_long {s:Str} (h:128<s.length):isCube s=false:=by
 unfold isCube
 rw [decide_eq_false (by omega:¬ s.length≤128)];simp
theorem isCube_all {s:Str} (h:1≤s.length) (h2:s.length≤128):isCube s=s.all cubeB:=by
 unfold isCube
 rw [decide_eq_true h2,decide_eq_true (by intro e;simp [e] at h)];simp
theorem s119 (s:Str) (hs:s.length<4611686018427387904) (A:St):f119 (.str s) (.str [48,49,120]) A=some (.ret (.bool (isCube s)),A):=by
 unfold f119 n119;dsimp only
 have:=s119_loop s hs A s 0 rfl (by omega)
 refine qbb ?_
 by_cases h1:1≤s.length
 ·by_cases h2:s.length≤128
  ·(repeat' first|(with_reducible first|apply qac|apply qa3|apply qaz|apply qag (b:=false)|apply qaa (b:=false)|apply qan|apply qba|(apply qa2;omega)|(apply qbo;omega))|((conv=>arg 2;arg 1;simp only [qak,qb0]);(with_reducible first|apply qac|apply qaa (b:=false))))
   (refine qay ?_;(conv=>lhs;simp only []);rw [isCube_all h1 h2];exact this)
  ·(repeat' first|(with_reducible first|apply qac|apply qa3|apply qaz|apply qai|apply qag (b:=false)|apply qaa (b:=false)|apply qap|apply qba|(apply qa2;omega)|(apply qbx;omega))|((conv=>arg 2;arg 1;simp only [qak,qb0]);(with_reducible first|apply qac|apply qaa (b:=true))))
   ((try conv=>arg 2;simp only [qae,qaw,qar,qad,List.take_length,qau,qab,qah]);refine qal ?_)
   rw [isCube_long (by omega)]
 ·have:s=[]:=by cases s with|nil=>rfl|cons=>simp at h1
  subst this
  (repeat' first|(with_reducible first|apply qac|apply qa3|apply qaz|apply qai|apply qag (b:=true)|apply qaa (b:=true)|apply qap|apply qbq|(apply qas;omega))|((conv=>arg 2;arg 1;simp only [qaq,qb0,List.length_nil]);(with_reducible first|apply qac|apply qaa (b:=true))))
  ((try conv=>arg 2;simp only [qae,qaw,qar,qad,List.take_length,qau,qab,qah]);refine qal ?_)
  rfl
theorem s80 (s:Str) (hs:s.length<4611686018427387904) (A:St):f80 (encL 1 [.str s]) A=some (if isCube s=true then (.ret (.tup []),A) else (.pan (.iface 179 (.agg [.int .i64 10])),A)):=by
 have hof:=fun A=>s119 s hs A
 have hla:layCells false 1 0 [D.int .i64 0] (D.int .i64 10)=some [.int .i64 10]:=rfl
 have hix:indexAddrO 1 false (encL 1 [.str s]) (.int .i64 0)=some (.peek [.str s]):=rfl
 have hsh:∀ n,(encL 1 [D.str s]).shut n=encL 1 [D.str s]:=fun n=>by simp [encL]
 unfold f80 n80;dsimp only
 refine qbb ?_
 (repeat' first|((conv=>arg 2;arg 1;simp only [Nat.zero_add,List.length_cons,List.length_nil,qa0]);(with_reducible apply qac)))
 refine qbh (q80_0 ..) ?_
 unfold n80_0;dsimp only
 cases h:isCube s
 ·rw [h] at hof
  (repeat' first|(with_reducible first|(apply tot_jn;intro hkk hke)|apply qac|apply tp_bnbn|apply qa3|apply qa1|apply qaa (b:=true)|apply qap)|((conv=>arg 2;arg 1;simp (disch:=first|omega|assumption) only [qav,qa4,qb5,Bool.not_false,qat,eg_0,eg_S,hix,r119,hof,hla]);(with_reducible first|apply qac|(apply qas;omega))))
  ((try conv=>arg 2;simp only [bn_some,qae,qar,Res_shut_pan,leaves_pan,List.take_length,leaveM_mL,Res_canon_pan,qah,eg_0,eg_S]);refine qal ?_)
  rfl
 ·rw [h] at hof
  (repeat' first|(with_reducible first|(apply tot_jn;intro hkk hke)|(apply tot_jk;· assumption)|apply qa3|apply qa1|apply tp_gk|apply qaa (b:=true)|apply qaa (b:=false)|apply qap|apply qan)|((conv=>arg 2;arg 1;simp (disch:=first|omega|assumption) only [qbe,qa5,qar,qav,qa4,qb5,Bool.not_true,qat,Int.reduceAdd,eg_0,eg_S,hix,r119,hof]);(with_reducible first|apply qac|apply qbg|(apply qas;omega))))
  refine qbh (q80_0 ..) ?_
  unfold n80_0;dsimp only
  (repeat' first|(with_reducible first|apply qaa (b:=false)|apply qan)|((conv=>arg 2;arg 1;simp (disch:=first|omega|assumption) only [qao,qbr,List.map_nil,Nat.zero_add,List.length_cons,List.length_nil,qa0,eg_0,eg_S,hsh]);(with_reducible first|apply qac|(apply qa2;omega))))
  refine qbh (q80_1 ..) ?_
  unfold n80_1;dsimp only
  (repeat' first|(with_reducible first|(apply tot_jn;intro hkk hke)|(apply tot_jk;· assumption)|apply qa3|apply tp_gk|apply qaa (b:=true)|apply qaa (b:=false)|apply qap|apply qan|(apply tot_neq_t;omega))|((conv=>arg 2;arg 1;simp (disch:=first|omega|assumption) only [qbe,qa5,qao,qbr,qar,qb0,qav,qa4,List.take_length,List.map_nil,Int.reduceAdd,eg_0,eg_S,hix,hsh]);(with_reducible first|apply qac|apply qbg|(apply qas;omega))))
  refine qbh (q80_1 ..) ?_
  unfold n80_1;dsimp only
  (repeat' first|(with_reducible first|apply qai|apply qaa (b:=false)|apply qan)|((conv=>arg 2;arg 1;simp (disch:=first|omega|assumption) only [Option.map_some,qao,qbr,qax,List.take_length,List.map_nil,eg_0,eg_S,hsh]);(with_reducible first|apply qac|(apply qa2;omega))))
  ((try conv=>arg 2;simp only [qae,shut_tup,qby,qar,qad,List.take_length,qb7,qbu,qab,qah]);refine qal ?_)
  rfl
end Go.Vm.Rx
