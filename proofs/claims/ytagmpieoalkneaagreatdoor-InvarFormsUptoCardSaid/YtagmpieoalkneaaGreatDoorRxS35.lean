/- RxS76, RxS77, RxS35 in one text. -/
import Derived.Test.YtagmpieoalkneaaGreatDoorRxS75
import Derived.Test.YtagmpieoalkneaaGreatDoorRxI6
import Derived.Test.YtagmpieoalkneaaGreatDoorRxS60
set_option linter.all false
/- Which invariants may be: both texts. -/
namespace Go.Vm.Rx
open Go Go.Proofs P
set_option maxRecDepth 10000
set_option maxHeartbeats 4000000
theorem sgeq (n:Nat) (b:Bool) (x s:Str):binO .geq n b (.str x) (.str s)=some (.bool (!decide (x<s))):=by
 show some (D.bool (!(Op.bytesLess x s)))=_
 rw [Go.Proofs.bytesLess_eq]
def ahead (l:List Str) (i:Nat):Option Str:=if i=0 then none else some (l.getD (i - 1) [])
theorem ahead_succ {l t:List Str} {i:Nat} {x:Str} (h:l.drop i=x::t):ahead l (i+1)=some x:=by
 unfold ahead
 have h1:=qbz h
 have:=List.drop_eq_getElem_cons h1
 rw [h] at this
 rw [if_neg (by omega),Nat.add_sub_cancel,List.getD_eq_getElem?_getD,List.getElem?_eq_getElem h1,Option.getD_some,(List.cons.inj this).1]
theorem idx_ahead {l:List Str} {i:Nat} (h0:i≠0) (h:i<l.length):indexAddrO 1 false (encL 1 (l.map .str)) (.int .i64 ((i:Int) - 1))=some (.peek [.str (l.getD (i - 1) [])]):=by
 have e:((i:Int) - 1)=((i - 1:Nat):Int):=by omega
 rw [e,idx_map (by omega:i - 1<l.length),List.getD_eq_getElem?_getD,List.getElem?_eq_getElem (by omega)]
 rfl
theorem s36 (n a b:Int) (A:St):f36 (.int .i64 n) (.int .i64 a) (.int .i64 b) A=some (.ret (.bool (decide (a≤n∧n≤b))),A):=by
 unfold f36 n36;dsimp only
 refine qbb ?_
 by_cases h1:a≤n
 ·by_cases h2:n≤b
  ·rw [decide_eq_true ⟨h1,h2⟩]
   (repeat' first|(with_reducible first|apply qac|apply qa3|apply qaz|apply qai|apply qag (b:=true)|apply qaa (b:=true)|apply qbd|(apply tot_leq_t;omega)|(apply tot_geq_t;omega)))
   ((try conv=>arg 2;simp only [qaq,qae,qaw,qar,qad,List.take_length,qau,qab,qah]);refine qal ?_)
   rfl
  ·rw [decide_eq_false (fun h=>h2 h.2)]
   (repeat' first|(with_reducible first|apply qac|apply qa3|apply qaz|apply qai|apply qag (b:=true)|apply qaa (b:=true)|apply qbd|(apply tot_leq_f;omega)|(apply tot_geq_t;omega)))
   ((try conv=>arg 2;simp only [qaq,qae,qaw,qar,qad,List.take_length,qau,qab,qah]);refine qal ?_)
   rfl
 ·rw [decide_eq_false (fun h=>h1 h.1)]
  (repeat' first|(with_reducible first|apply qac|apply qa3|apply qaz|apply qai|apply qag (b:=false)|apply qaa (b:=false)|apply qbj|(apply qb8;omega)))
  ((try conv=>arg 2;simp only [qak,qae,qaw,qar,qad,List.take_length,qau,qab,qah]);refine qal ?_)
  rfl
section
variable (v:Iv) (hv:IvOk v) (hs:∀ s,s ∈ v.ing→s.length<4611686018427387904) (hnm:v.nm.length<4611686018427387904) (hpk:v.pk.length<4611686018427387904) (A:St)
include hv hs
theorem s14_loop:∀ (t:List Str) (i:Nat) (ok:Bool),v.ing.drop i=t→i≤v.ing.length →
  LP Tryz.prog rxA 14 [0,1,0,1,1] [A] (Env.mk (sp [(1,.ref A.length 0),(1,.bool ok),(33,encL 1 (v.ing.map .str)),(0,.int .i64 (v.ing.length:Nat)),(0,.int .i64 (i:Nat))] 29) []) (A++[.cells (ivC v)])=some (.ret (.int .i64 (if (ok && risT (ahead v.ing i) t)=true then v.path.check else 120)),A):=by
 have hlen:=hv.2
 have hchk:=fun A=>s37 v.path hv.1 A
 have hsh:=str_shut v.ing 1
 have hrs:(D.ref A.length 0).shut (A.length+1)=.ref A.length 0:=shut_ref _ (by omega)
 have hbn:∀ b:Bool,unD UnOp.not (.bool b)=some (.bool (!b)):=fun _=>rfl
 intro t
 induction t with
 | nil =>
  intro i ok ht hi
  have h1:=qb1 ht
  have e:(ok && risT (ahead v.ing i) [])=ok:=by simp [risT]
  rw [e]
  refine qbb (qbh (q14_0 ..) ?_)
  unfold n14_0;dsimp only
  cases ok
  ·(repeat' first|(with_reducible first|apply qai|apply qaa (b:=true)|apply qaa (b:=false)|apply qap|apply qan)|((conv=>arg 2;arg 1;simp only [Option.map_some,qax,qb5,Bool.not_false,qa6,qa9,qa8]);(with_reducible first|apply qac|(apply qa2;omega))))
   ((try conv=>arg 2;simp (disch:=first|omega|assumption) only [qae,qao,qam,qad,qaj,qab,qah,List.take_left']);refine qal ?_)
   rfl
  ·(repeat' first|(with_reducible first|apply qa3|apply qa1|apply qai|apply qaa (b:=false)|apply qan)|((conv=>arg 2;arg 1;simp (disch:=first|omega|assumption) only [Option.map_some,qax,qaf,Nat.zero_add,qb5,Bool.not_true,qa6,qa9,qa8,qa7,ldc0,ivc6,qb2,r37,hchk]);(with_reducible first|apply qac|(apply qa2;omega))))
   ((try conv=>arg 2;simp (disch:=first|omega|assumption) only [qae,qao,qam,qad,qaj,qab,qah,List.take_left']);refine qal ?_)
   rfl
 | cons x t ih =>
  intro i ok ht hi
  have h1:=qbz ht
  have hx:=qb6 (f:=D.str) ht 1 false .i64
  have hn:=fun A=>s34 x (hs x (drop_mem ht)) A
  have hah:=ahead_succ ht
  have hih:=fun ok=>ih (i+1) ok (qbi ht) (by omega)
  rw [hah] at hih
  refine qbb (qbh (q14_0 ..) ?_)
  unfold n14_0;dsimp only
  cases ok
  ·have e:(false && risT (ahead v.ing i) (x::t))=(false && risT (some x) t):=rfl
   rw [e]
   (repeat' first|(with_reducible first|apply qac|apply qa3|apply qaz|apply qa1|apply tp_gk|apply tot_gbn|apply qaa (b:=true)|apply qap|apply qan|apply qbj)|((conv=>arg 2;arg 1;simp (disch:=first|omega|assumption) only [qak,qbe,qa5,qar,qav,qa4,qa6,qa9,qa8,qbc,cell_str,hx]);(with_reducible first|apply qac|apply qbg|apply qag (b:=false)|apply qaa (b:=false)|(apply qas;omega))))
   (refine qay ?_;(conv=>lhs;simp (disch:=first|omega|assumption) only [qak,qao,qaw,qbr,shut_ref,List.map_nil,Nat.zero_add,List.length_append,List.length_cons,List.length_nil,qa6,qa9,qa8,take_n1]);rw [hsh];exact hih false)
  ·rw [risT_cons]
   cases hnx:isName x
   ·rw [hnx] at hn
    have e:(true && (false && lessO (ahead v.ing i) x && risT (some x) t))=(false && risT (some x) t):=by simp
    rw [e]
    (repeat' first|(with_reducible first|apply qac|apply qa3|apply qaz|apply qa1|apply tp_gk|apply tot_gbn|apply qaa (b:=true)|apply qap|apply qan|apply qbd|apply qbj)|((conv=>arg 2;arg 1;simp (disch:=first|omega|assumption) only [qaq,qbe,qa5,qar,qav,qa4,qa6,qa9,qa8,qbc,qat,cell_str,hx,r34,hn]);(with_reducible first|apply qac|apply qbg|apply qag (b:=true)|apply qag (b:=false)|apply qaa (b:=true)|apply qaa (b:=false)|(apply qas;omega))))
    (refine qay ?_;(conv=>lhs;simp (disch:=first|omega|assumption) only [qak,qao,qaw,qbr,shut_ref,List.map_nil,Nat.zero_add,List.length_append,List.length_cons,List.length_nil,qa6,qa9,qa8,take_n1]);rw [hsh];exact hih false)
   ·rw [hnx] at hn
    by_cases h0:i=0
    ·subst h0
     have e:(true && (true && lessO (ahead v.ing 0) x && risT (some x) t))=(true && risT (some x) t):=by simp [ahead,lessO]
     rw [e]
     (repeat' first|(with_reducible first|apply qac|apply qa3|apply qaz|apply qa1|apply tp_gk|apply qag (b:=true)|apply qaa (b:=true)|apply qap|apply qbd|apply qbq)|((conv=>arg 2;arg 1;simp (disch:=first|omega|assumption) only [qaq,qbe,qa5,qar,qav,qa4,qa6,qa9,qa8,qbc,qat,cell_str,hx,r34,hn]);(with_reducible first|apply qac|apply qbg|apply qag (b:=true)|apply qaa (b:=true)|(apply qas;omega)|(apply qbn;omega))))
     (refine qay ?_;(conv=>lhs;simp (disch:=first|omega|assumption) only [qaq,qao,qaw,qbr,shut_ref,List.map_nil,Nat.zero_add,List.length_append,List.length_cons,List.length_nil,qa6,qa9,qa8,take_n1]);rw [hsh];exact hih true)
    ·have hix:=idx_ahead (l:=v.ing) h0 h1
     have ha:ahead v.ing i=some (v.ing.getD (i - 1) []):=by unfold ahead;rw [if_neg h0]
     have hls:=slss 3 false (v.ing.getD (i - 1) []) x
     rw [ha]
     generalize v.ing.getD (i - 1) []=y at hix hls
     show Tot (fun z=>z=(Res.ret (.int .i64 (if (true && (true && decide (y<x) && risT (some x) t))=true then v.path.check else 120)),A)) _
     cases hlt:decide (y<x)
     ·rw [hlt] at hls
      have e:(true && (true && false && risT (some x) t))=(false && risT (some x) t):=by simp
      rw [e]
      (repeat' first|(with_reducible first|apply qac|apply qa3|apply qaz|apply qa1|apply tp_gk|apply qag (b:=false)|apply qaa (b:=true)|apply qaa (b:=false)|apply qap|apply qbd|apply qba)|((conv=>arg 2;arg 1;simp (disch:=first|omega|assumption) only [qaq,qbe,qb9,qa5,qar,qaf,qav,qa4,Nat.zero_add,qa6,qa9,qa8,qbc,qat,cell_str,qa7,ldc0,hx,r34,hn,ivc2,hix,hls]);(with_reducible first|apply qac|apply qbg|apply qag (b:=true)|apply qaa (b:=true)|(apply qas;omega)|(apply qbw;omega))))
      (refine qay ?_;(conv=>lhs;simp (disch:=first|omega|assumption) only [qaq,qak,qao,qaw,qbr,shut_ref,List.map_nil,Nat.zero_add,List.length_append,List.length_cons,List.length_nil,qa6,qa9,qa8,take_n1]);rw [hsh];exact hih false)
     ·rw [hlt] at hls
      have e:(true && (true && true && risT (some x) t))=(true && risT (some x) t):=by simp
      rw [e]
      (repeat' first|(with_reducible first|apply qac|apply qa3|apply qaz|apply qa1|apply tp_gk|apply qag (b:=false)|apply qaa (b:=true)|apply qaa (b:=false)|apply qap|apply qbd|apply qba)|((conv=>arg 2;arg 1;simp (disch:=first|omega|assumption) only [qaq,qbe,qb9,qa5,qar,qaf,qav,qa4,Nat.zero_add,qa6,qa9,qa8,qbc,qat,cell_str,qa7,ldc0,hx,r34,hn,ivc2,hix,hls]);(with_reducible first|apply qac|apply qbg|apply qag (b:=true)|apply qaa (b:=true)|(apply qas;omega)|(apply qbw;omega))))
      (refine qay ?_;(conv=>lhs;simp (disch:=first|omega|assumption) only [qaq,qak,qao,qaw,qbr,shut_ref,List.map_nil,Nat.zero_add,List.length_append,List.length_cons,List.length_nil,qa6,qa9,qa8,take_n1]);rw [hsh];exact hih true)
theorem s50_loop:∀ (t:List Str) (i:Nat),v.ing.drop i=t→i≤v.ing.length →
  LP Tryz.prog rxA 50 [0,1,0,1] [A] (Env.mk (sp [(0,encL 1 (v.ing.map .str)),(2,.int .i64 (i:Nat))] 36) []) A=some (.ret (.bool (risT (ahead v.ing i) t && decide (1≤v.ing.length∧v.ing.length≤256))),A):=by
 have hlen:=hv.2
 have hsh:=str_shut v.ing 1
 intro t
 induction t with
 | nil =>
  intro i ht hi
  have h1:=qb1 ht
  refine qbb (qbh (q50_0 ..) ?_)
  unfold n50_0;dsimp only
  by_cases h2:1≤v.ing.length
  ·by_cases h3:v.ing.length≤256
   ·rw [decide_eq_true ⟨h2,h3⟩]
    (repeat' first|(with_reducible first|apply qac|apply qa3|apply qaz|apply qai|apply qag (b:=true)|apply qaa (b:=true)|apply qaa (b:=false)|apply qan|apply qbd|(apply tot_leq_t;omega)|(apply qbx;omega))|((conv=>arg 2;arg 1;simp only [qaq,Option.map_some,qax,qa6,qa9,qa8,qa0,List.length_map]);(with_reducible first|apply qac|(apply qa2;omega))))
    ((try conv=>arg 2;simp only [qae,qaw,qar,qad,List.take_length,qau,qab,qah]);refine qal ?_)
    simp [risT]
   ·rw [decide_eq_false (fun h=>h3 h.2)]
    (repeat' first|(with_reducible first|apply qac|apply qa3|apply qaz|apply qai|apply qag (b:=true)|apply qaa (b:=true)|apply qaa (b:=false)|apply qan|apply qbd|(apply tot_leq_f;omega)|(apply qbx;omega))|((conv=>arg 2;arg 1;simp only [qaq,Option.map_some,qax,qa6,qa9,qa8,qa0,List.length_map]);(with_reducible first|apply qac|(apply qa2;omega))))
    ((try conv=>arg 2;simp only [qae,qaw,qar,qad,List.take_length,qau,qab,qah]);refine qal ?_)
    simp
  ·rw [decide_eq_false (fun h=>h2 h.1)]
   (repeat' first|(with_reducible first|apply qac|apply qa3|apply qaz|apply qai|apply qag (b:=false)|apply qaa (b:=false)|apply qan|apply qbj|(apply qbo;omega))|((conv=>arg 2;arg 1;simp only [qak,Option.map_some,qax,qa6,qa9,qa8,qa0,List.length_map]);(with_reducible first|apply qac|(apply qa2;omega))))
   ((try conv=>arg 2;simp only [qae,qaw,qar,qad,List.take_length,qau,qab,qah]);refine qal ?_)
   simp
 | cons x t ih =>
  intro i ht hi
  have h1:=qbz ht
  have hx:=qb6 (f:=D.str) ht 1 false .i64
  have hn:=fun A=>s48 x (hs x (drop_mem ht)) A
  have hah:=ahead_succ ht
  have hih:=ih (i+1) (qbi ht) (by omega)
  rw [hah] at hih
  refine qbb (qbh (q50_0 ..) ?_)
  unfold n50_0;dsimp only
  rw [risT_cons]
  cases hnx:isName x
  ·rw [hnx] at hn
   (repeat' first|(with_reducible first|apply qac|apply qa3|apply qaz|apply qa1|apply qai|apply qag (b:=true)|apply tot_gbn|apply qaa (b:=true)|apply qap|apply qan|apply qbq)|((conv=>arg 2;arg 1;simp (disch:=first|omega|assumption) only [qaq,Option.map_some,qax,qav,qa4,qb5,Bool.not_false,qa6,qa9,qa8,qbc,qat,qa0,cell_str,List.length_map,hx,r48,hn]);(with_reducible first|apply qac|apply qaa (b:=true)|(apply qas;omega))))
   ((try conv=>arg 2;simp only [qae,qaw,qar,qad,List.take_length,qau,qab,qah]);refine qal ?_)
   simp
  ·rw [hnx] at hn
   by_cases h0:i=0
   ·subst h0
    (repeat' first|(with_reducible first|apply qac|apply qa3|apply qaz|apply qa1|apply tp_gk|apply qag (b:=false)|apply qaa (b:=true)|apply qaa (b:=false)|apply qap|apply qan|apply qbj|apply qba)|((conv=>arg 2;arg 1;simp (disch:=first|omega|assumption) only [qak,qbe,qa5,qar,qav,qa4,qb5,Bool.not_true,qa6,qa9,qa8,qbc,qat,qa0,cell_str,List.length_map,hx,r48,hn]);(with_reducible first|apply qac|apply qbg|apply qaa (b:=false)|(apply qas;omega)|(apply qbo;omega))))
    (refine qay ?_;(conv=>lhs;simp only [qao,qbr,List.take_length,List.map_nil,qa6]);rw [hsh];simpa [ahead,lessO] using hih)
   ·have hix:=idx_ahead (l:=v.ing) h0 h1
    have ha:ahead v.ing i=some (v.ing.getD (i - 1) []):=by unfold ahead;rw [if_neg h0]
    have hls:=sgeq 3 false (v.ing.getD (i - 1) []) x
    rw [ha]
    generalize v.ing.getD (i - 1) []=y at hix hls
    show Tot (fun z=>z=(Res.ret (.bool (true && decide (y<x) && risT (some x) t && decide (1≤v.ing.length∧v.ing.length≤256))),A)) _
    cases hlt:decide (y<x)
    ·rw [hlt] at hls
     (repeat' first|(with_reducible first|apply qac|apply qa3|apply qaz|apply qa1|apply qai|apply qag (b:=true)|apply qag (b:=false)|apply qaa (b:=true)|apply qaa (b:=false)|apply qap|apply qbd|apply qba)|((conv=>arg 2;arg 1;simp (disch:=first|omega|assumption) only [qaq,qak,Option.map_some,qb9,qa5,qax,qav,qa4,qb5,Bool.not_true,Bool.not_false,qa6,qa9,qa8,qbc,qat,qa0,cell_str,List.length_map,hx,r48,hn,hix,hls]);(with_reducible first|apply qac|apply qaa (b:=true)|(apply qas;omega)|(apply qbx;omega))))
     ((try conv=>arg 2;simp only [qae,qaw,qar,qad,List.take_length,qau,qab,qah]);refine qal ?_)
     simp
    ·rw [hlt] at hls
     (repeat' first|(with_reducible first|apply qac|apply qa3|apply qaz|apply qa1|apply tp_gk|apply qag (b:=true)|apply qag (b:=false)|apply qaa (b:=true)|apply qaa (b:=false)|apply qap|apply qan|apply qbd|apply qba)|((conv=>arg 2;arg 1;simp (disch:=first|omega|assumption) only [qaq,qak,qbe,qb9,qa5,qar,qav,qa4,qb5,Bool.not_true,qa6,qa9,qa8,qbc,qat,qa0,cell_str,List.length_map,hx,r48,hn,hix,hls]);(with_reducible first|apply qac|apply qbg|apply qaa (b:=false)|(apply qas;omega)|(apply qbx;omega))))
     (refine qay ?_;(conv=>lhs;simp only [qao,qbr,List.take_length,List.map_nil,qa6]);rw [hsh];simpa using hih)
theorem s50:f50 (encL 1 (v.ing.map .str)) A=some (.ret (.bool (risT none v.ing && decide (1≤v.ing.length∧v.ing.length≤256))),A):=by
 have:=s50_loop v hv hs A v.ing 0 rfl (by omega)
 unfold f50 n50;dsimp only
 refine qbb ?_
 skip
 (refine qay ?_;(conv=>lhs;simp only []);exact this)
end
end Go.Vm.Rx

/- Which invariants may be: both texts' answers. -/
namespace Go.Vm.Rx
open Go Go.Proofs P
set_option maxRecDepth 10000
set_option maxHeartbeats 4000000
structure IvWell (v:Iv):Prop where
 ok:IvOk v
 nm:v.nm.length≤100000000
 pk:v.pk.length≤100000000
 ing:∀ s,s ∈ v.ing→s.length≤100000000
variable (v:Iv) (hv:IvWell v) (A:St)
include hv
theorem s14:f14 (encIv v) A=some (.ret (.int .i64 (ivForm v)),A):=by
 have hlo:=fun ok=>s14_loop v hv.ok (fun s h=>by have:=hv.ing s h;omega) A v.ing 0 ok rfl (by omega)
 have h0:ahead v.ing 0=none:=rfl
 simp only [h0,Int.natCast_zero] at hlo
 have hnm:=hv.nm;have hpk:=hv.pk;have hil:=hv.ok.2
 have hn:=fun A=>s34 v.nm (by omega) A
 have hc:=fun A=>s35 v.pk (by omega) A
 have hw:=fun n a b A=>s36 n a b A
 have hform:ivForm v=if (isName v.nm && isCube v.pk && decide (1≤v.ing.length∧v.ing.length≤256) && decide (0≤v.hops∧v.hops≤64) && decide (1≤v.cmp∧v.cmp≤3) && decide (0≤v.cnt∧v.cnt≤62) && risT none v.ing)=true then v.path.check else 120:=rfl
 have hL:decide (1≤(v.ing.length:Int)∧(v.ing.length:Int)≤256)=decide (1≤v.ing.length∧v.ing.length≤256):=by
  rw [decide_eq_decide];omega
 rw [hform]
 unfold f14 n14;dsimp only
 refine qbb ?_
 cases h1:isName v.nm
 ·rw [h1] at hn
  (repeat' first|(with_reducible first|apply qac|apply qa3|apply qaz|apply qa1|apply qag (b:=false)|apply qaa (b:=false)|apply qbj)|((conv=>arg 2;arg 1;simp (disch:=first|omega|assumption) only [qak,qaf,Nat.zero_add,Nat.add_zero,qat,qa0,qa7,ldc0,List.length_map,ivbx,ivc0,ivc2,r34,hn]);(with_reducible first|apply qac|apply qag (b:=false)|apply qaa (b:=false))))
  (refine qay ?_;(conv=>lhs;simp only [qak]);exact hlo false)
 ·rw [h1] at hn
  cases h2:isCube v.pk
  ·simp only [h2,Bool.false_eq_true,if_false] at hc
   (repeat' first|(with_reducible first|apply qac|apply qa3|apply qaz|apply qa1|apply qag (b:=true)|apply qaa (b:=true)|apply qbd|apply qbj|(apply qbw;omega))|((conv=>arg 2;arg 1;simp (disch:=first|omega|assumption) only [qaq,qak,qaf,Nat.zero_add,Nat.add_zero,qat,qa0,qa7,ldc0,List.length_map,ivbx,ivc0,ivc1,ivc2,r34,hn,r35,hc]);(with_reducible first|apply qac|apply qag (b:=false)|apply qaa (b:=false))))
   (refine qay ?_;(conv=>lhs;simp only [qak]);exact hlo false)
  ·simp only [h2,if_true] at hc
   cases h3:decide (1≤v.ing.length∧v.ing.length≤256)
   ·rw [h3] at hL
    (repeat' first|(with_reducible first|apply qac|apply qa3|apply qaz|apply qa1|apply qag (b:=true)|apply qaa (b:=true)|apply qbd|apply qbj|(apply qbn;omega))|((conv=>arg 2;arg 1;simp (disch:=first|omega|assumption) only [qaq,qak,qaf,Nat.zero_add,Nat.add_zero,qaj,qat,qa0,qa7,ldc0,List.length_map,ivbx,ivc0,ivc1,ivc2,r34,hn,r35,hc,r36,hw,hL]);(with_reducible first|apply qac|apply qag (b:=true)|apply qag (b:=false)|apply qaa (b:=true)|apply qaa (b:=false))))
    (refine qay ?_;(conv=>lhs;simp only [qak]);exact hlo false)
   ·rw [h3] at hL
    cases h4:decide (0≤v.hops∧v.hops≤64)
    ·(repeat' first|(with_reducible first|apply qac|apply qa3|apply qaz|apply qa1|apply qag (b:=true)|apply qaa (b:=true)|apply qbd|apply qbj|(apply qbn;omega))|((conv=>arg 2;arg 1;simp (disch:=first|omega|assumption) only [qaq,qak,qaf,Nat.zero_add,Nat.add_zero,qaj,qat,qa0,qa7,ldc0,List.length_map,ivbx,ivc0,ivc1,ivc2,ivc3,r34,hn,r35,hc,r36,hw,hL,h4]);(with_reducible first|apply qac|apply qag (b:=true)|apply qag (b:=false)|apply qaa (b:=true)|apply qaa (b:=false))))
     (refine qay ?_;(conv=>lhs;simp only [qak]);exact hlo false)
    ·cases h5:decide (1≤v.cmp∧v.cmp≤3)
     ·(repeat' first|(with_reducible first|apply qac|apply qa3|apply qaz|apply qa1|apply qag (b:=true)|apply qaa (b:=true)|apply qbd|apply qbj|(apply qbn;omega))|((conv=>arg 2;arg 1;simp (disch:=first|omega|assumption) only [qaq,qaf,Nat.zero_add,Nat.add_zero,qaj,qat,qa0,qa7,ldc0,List.length_map,ivbx,ivc0,ivc1,ivc2,ivc3,ivc4,r34,hn,r35,hc,r36,hw,hL,h4,h5]);(with_reducible first|apply qac|apply qag (b:=true)|apply qag (b:=false)|apply qaa (b:=true)|apply qaa (b:=false))))
      (refine qay ?_;(conv=>lhs;simp only [qak]);exact hlo false)
     ·cases h6:decide (0≤v.cnt∧v.cnt≤62)
      ·(repeat' first|(with_reducible first|apply qa3|apply qaz|apply qa1|apply qag (b:=true)|apply qaa (b:=true)|apply qbd|(apply qbn;omega))|((conv=>arg 2;arg 1;simp (disch:=first|omega|assumption) only [qaq,qaf,Nat.zero_add,Nat.add_zero,qaj,qat,qa0,qa7,ldc0,List.length_map,ivbx,ivc0,ivc1,ivc2,ivc3,ivc4,ivc5,r34,hn,r35,hc,r36,hw,hL,h4,h5,h6]);(with_reducible first|apply qac|apply qag (b:=true)|apply qaa (b:=true))))
       (refine qay ?_;(conv=>lhs;simp only [qaq]);exact hlo false)
      ·(repeat' first|(with_reducible first|apply qa3|apply qaz|apply qa1|apply qag (b:=true)|apply qaa (b:=true)|apply qbd|(apply qbn;omega))|((conv=>arg 2;arg 1;simp (disch:=first|omega|assumption) only [qaq,qaf,Nat.zero_add,Nat.add_zero,qaj,qat,qa0,qa7,ldc0,List.length_map,ivbx,ivc0,ivc1,ivc2,ivc3,ivc4,ivc5,r34,hn,r35,hc,r36,hw,hL,h4,h5,h6]);(with_reducible first|apply qac|apply qag (b:=true)|apply qaa (b:=true))))
       (refine qay ?_;(conv=>lhs;simp only [qaq]);exact hlo true)
theorem s20:f20 (encIv v) A=some (.ret (.int .i64 (ivForm v)),A):=by
 have hnm:=hv.nm;have hpk:=hv.pk;have hil:=hv.ok.2
 have hn:=fun A=>s48 v.nm (by omega) A
 have hc:=fun A=>s49 v.pk (by omega) A
 have hr:=fun A=>s50 v hv.ok (fun s h=>by have:=hv.ing s h;omega) A
 have hk:=fun A=>s51 v.path hv.ok.1 A
 have hform:ivForm v=if (isName v.nm && isCube v.pk && decide (1≤v.ing.length∧v.ing.length≤256) && decide (0≤v.hops∧v.hops≤64) && decide (1≤v.cmp∧v.cmp≤3) && decide (0≤v.cnt∧v.cnt≤62) && risT none v.ing)=true then v.path.check else 120:=rfl
 have hsc:=str_canon v.ing 1
 rw [hform]
 unfold f20 n20;dsimp only
 refine qbb ?_
 cases h1:isName v.nm
 ·rw [h1] at hn
  (repeat' first|(with_reducible first|apply qac|apply qa3|apply qaz|apply qa1|apply qai|apply qag (b:=true)|apply qaa (b:=true)|apply qap|apply qbq)|((conv=>arg 2;arg 1;simp (disch:=first|omega|assumption) only [qaq,qaf,Nat.add_zero,qb5,Bool.not_false,qat,qa7,ldc0,ivbx,ivc0,r48,hn]);(with_reducible first|apply qac|apply qag (b:=true)|apply qaa (b:=true))))
  ((try conv=>arg 2;simp (disch:=first|omega|assumption) only [qae,qao,qam,qad,qaj,qab,qah,List.take_left']);refine qal ?_)
  rfl
 ·rw [h1] at hn
  cases h2:isCube v.pk
  ·rw [h2] at hc
   (repeat' first|(with_reducible first|apply qac|apply qa3|apply qaz|apply qa1|apply qai|apply qag (b:=false)|apply qaa (b:=false)|apply qap|apply qbq|apply qba)|((conv=>arg 2;arg 1;simp (disch:=first|omega|assumption) only [qaq,qak,qaf,Nat.zero_add,Nat.add_zero,qb5,Bool.not_true,Bool.not_false,qat,qa7,ldc0,ivbx,ivc0,ivc1,r48,hn,r49,hc]);(with_reducible first|apply qac|apply qag (b:=true)|apply qaa (b:=true))))
   ((try conv=>arg 2;simp (disch:=first|omega|assumption) only [qae,qao,qam,qad,qaj,qab,qah,List.take_left']);refine qal ?_)
   rfl
  ·rw [h2] at hc
   cases h3:(risT none v.ing && decide (1≤v.ing.length∧v.ing.length≤256))
   ·rw [h3] at hr
    have e:(true && true && decide (1≤v.ing.length∧v.ing.length≤256) && decide (0≤v.hops∧v.hops≤64) && decide (1≤v.cmp∧v.cmp≤3) && decide (0≤v.cnt∧v.cnt≤62) && risT none v.ing)=false:=by
     cases hq:risT none v.ing
     ·simp
     ·rw [hq] at h3;simp only [Bool.true_and] at h3;rw [h3];simp
    rw [e]
    (repeat' first|(with_reducible first|apply qac|apply qa3|apply qaz|apply qa1|apply qai|apply qag (b:=false)|apply qaa (b:=false)|apply qap|apply qbq|apply qba)|((conv=>arg 2;arg 1;simp (disch:=first|omega|assumption) only [qaq,qak,qaf,Nat.zero_add,Nat.add_zero,qb5,Bool.not_true,Bool.not_false,qat,qa7,ldc0,ivbx,ivc0,ivc1,ivc2,r48,hn,r49,hc,r50,hsc,hr]);(with_reducible first|apply qac|apply qag (b:=true)|apply qag (b:=false)|apply qaa (b:=true)|apply qaa (b:=false))))
    ((try conv=>arg 2;simp (disch:=first|omega|assumption) only [qae,qao,qam,qad,qaj,qab,qah,List.take_left']);refine qal ?_)
    rfl
   ·rw [h3] at hr
    obtain ⟨h3a,h3b⟩:=Bool.and_eq_true_iff.1 h3
    rw [h3a,h3b]
    by_cases h4:0≤v.hops∧v.hops≤64
    ·rw [decide_eq_true h4]
     obtain ⟨g1,g2⟩:=h4
     by_cases h5:1≤v.cmp∧v.cmp≤3
     ·rw [decide_eq_true h5]
      obtain ⟨g3,g4⟩:=h5
      by_cases h6:0≤v.cnt∧v.cnt≤62
      ·rw [decide_eq_true h6]
       obtain ⟨g5,g6⟩:=h6
       (repeat' first|(with_reducible first|apply qa3|apply qaz|apply qa1|apply qai|apply qag (b:=false)|apply qaa (b:=false)|apply qan|apply qba|(apply qa2;omega)|(apply qbo;omega))|((conv=>arg 2;arg 1;simp (disch:=first|omega|assumption) only [qak,qaf,Nat.zero_add,Nat.add_zero,qb5,Bool.not_true,qat,qa7,ldc0,ivbx,ivc0,ivc1,ivc2,ivc3,ivc4,ivc5,ivc6,r48,hn,r49,hc,r50,hsc,hr,qb2,r51,hk]);(with_reducible first|apply qac|apply qag (b:=false)|apply qaa (b:=false))))
       ((try conv=>arg 2;simp (disch:=first|omega|assumption) only [qae,qao,qam,qad,qaj,qab,qah,List.take_left']);refine qal ?_)
       rfl
      ·rw [decide_eq_false h6]
       (repeat' first|(with_reducible first|apply qac|apply qa3|apply qaz|apply qa1|apply qai|apply qag (b:=false)|apply qaa (b:=false)|apply qap|apply qbq|apply qba|(apply qa2;omega)|(apply tot_lss;all_goals intro hsp)|(apply qbx;omega)|(apply qbo;omega))|((conv=>arg 2;arg 1;simp (disch:=first|omega|assumption) only [qaq,qak,qaf,Nat.zero_add,Nat.add_zero,qb5,Bool.not_true,qat,qa7,ldc0,ivbx,ivc0,ivc1,ivc2,ivc3,ivc4,ivc5,r48,hn,r49,hc,r50,hsc,hr]);(with_reducible first|apply qac|apply qag (b:=true)|apply qag (b:=false)|apply qaa (b:=true)|apply qaa (b:=false))))
       all_goals (((try conv=>arg 2;simp (disch:=first|omega|assumption) only [qae,qao,qam,qad,qaj,qab,qah,List.take_left']);refine qal ?_);rfl)
     ·rw [decide_eq_false h5]
      (repeat' first|(with_reducible first|apply qac|apply qa3|apply qaz|apply qa1|apply qai|apply qag (b:=false)|apply qaa (b:=false)|apply qap|apply qbq|apply qba|(apply qa2;omega)|(apply tot_lss;all_goals intro hsp)|(apply qbx;omega)|(apply qbo;omega))|((conv=>arg 2;arg 1;simp (disch:=first|omega|assumption) only [qaq,qak,qaf,Nat.zero_add,Nat.add_zero,qb5,Bool.not_true,qat,qa7,ldc0,ivbx,ivc0,ivc1,ivc2,ivc3,ivc4,r48,hn,r49,hc,r50,hsc,hr]);(with_reducible first|apply qac|apply qag (b:=true)|apply qag (b:=false)|apply qaa (b:=true)|apply qaa (b:=false))))
      all_goals (((try conv=>arg 2;simp (disch:=first|omega|assumption) only [qae,qao,qam,qad,qaj,qab,qah,List.take_left']);refine qal ?_);rfl)
    ·rw [decide_eq_false h4]
     (repeat' first|(with_reducible first|apply qac|apply qa3|apply qaz|apply qa1|apply qai|apply qag (b:=false)|apply qaa (b:=false)|apply qap|apply qbq|apply qba|(apply tot_lss;all_goals intro hsp)|(apply qbx;omega))|((conv=>arg 2;arg 1;simp (disch:=first|omega|assumption) only [qaq,qak,qaf,Nat.zero_add,Nat.add_zero,qb5,Bool.not_true,qat,qa7,ldc0,ivbx,ivc0,ivc1,ivc2,ivc3,r48,hn,r49,hc,r50,hsc,hr]);(with_reducible first|apply qac|apply qag (b:=true)|apply qag (b:=false)|apply qaa (b:=true)|apply qaa (b:=false))))
     all_goals (((try conv=>arg 2;simp (disch:=first|omega|assumption) only [qae,qao,qam,qad,qaj,qab,qah,List.take_left']);refine qal ?_);rfl)
end Go.Vm.Rx

/- One word,two words: what both texts say of them. -/
namespace Go.Vm.Rx
open Go Go.Proofs P
set_option maxRecDepth 10000
set_option maxHeartbeats 2000000
theorem str_add {n:Nat} {l:Bool} {a b:Str} (h:a.length+b.length≤9223372036854775807):binO .add n l (.str a) (.str b)=some (.str (a++b)):=by simp [binO,strBinD,h]
theorem idx_two0 {n:Nat} {d e:D} {g:Bool} {k:IntKind} {o:Own}:indexAddrO n g (.sl o n [d,e]) (.int k 0)=mp (d.cellsT g) .peek:=by simp [indexAddrO,D.int?,esOk,mp]
theorem idx_two1 {n:Nat} {d e:D} {g:Bool} {k:IntKind} {o:Own}:indexAddrO n g (.sl o n [d,e]) (.int k 1)=mp (e.cellsT g) .peek:=by simp [indexAddrO,D.int?,esOk,mp]
theorem canon2 (a b:Str):(D.sl .full 1 [.str a,.str b]).canon=encL 1 ([a,b].map .str):=rfl
theorem encL_c (n:Nat) (d:D) (ds:List D):encL n (d::ds)=.sl .sh n (d::ds):=rfl
def signP (s:Str):Bool:=pair s || (match s with|[c]=>single c|_=>false)
theorem s124 (s:Str) (A:St):f124 (.str s) A=some (.ret (.bool (signP s)),A):=by
 unfold f124 n124 signP;dsimp only
 refine qbb ?_
 rcases s with _|⟨c,_|⟨d,s⟩⟩
 ·(repeat' first|(with_reducible first|apply qac|apply qa3|apply qaz|apply qa1|apply qai|apply qag (b:=true)|apply qag (b:=false)|apply tot_gbn|apply qaa (b:=false)|apply qan|apply qbj|apply qbq|apply qba|(apply qbw;omega)|(apply tot_gb_t;assumption)|(apply tot_gb_f;assumption)|(apply tot_bq_t;assumption)|(apply tot_bq_f;assumption)|(apply tot_gb;all_goals intro hsp))|((conv=>arg 2;arg 1;simp (disch:=first|omega|assumption) only [qb0,List.length_nil,qat,r148,s148]);(with_reducible apply qac)))
  all_goals (((try conv=>arg 2;simp only [qaq,qak,qae,qaw,qar,qad,List.take_length,qau,qab,qah]);refine qal ?_);simp [*])
 ·(repeat' first|(with_reducible first|apply qac|apply qa3|apply qaz|apply qa1|apply qai|apply qag (b:=true)|apply qag (b:=false)|apply tot_gbn|apply qaa (b:=true)|apply qan|apply qbd|apply qbq|apply qba|(apply qbn;omega)|(apply tot_gb_t;assumption)|(apply tot_gb_f;assumption)|(apply tot_bq_t;assumption)|(apply tot_bq_f;assumption)|(apply tot_gb;all_goals intro hsp))|((conv=>arg 2;arg 1;simp (disch:=first|omega|assumption) only [qb0,Nat.zero_add,List.length_cons,List.length_nil,qaj,qat,idxStr0,r148,s148,r149,s149]);(with_reducible apply qac)))
  all_goals (((try conv=>arg 2;simp only [qaq,qak,qae,qaw,qar,qad,List.take_length,qau,qab,qah]);refine qal ?_);simp [*])
 ·(repeat' first|(with_reducible first|apply qac|apply qa3|apply qaz|apply qa1|apply qai|apply qag (b:=true)|apply qag (b:=false)|apply tot_gbn|apply qaa (b:=false)|apply qan|apply qbj|apply qbq|apply qba|(apply qbw;omega)|(apply tot_gb_t;assumption)|(apply tot_gb_f;assumption)|(apply tot_bq_t;assumption)|(apply tot_bq_f;assumption)|(apply tot_gb;all_goals intro hsp))|((conv=>arg 2;arg 1;simp (disch:=first|omega|assumption) only [qb0,List.length_cons,qat,r148,s148]);(with_reducible apply qac)))
  all_goals (((try conv=>arg 2;simp only [qaq,qak,qae,qaw,qar,qad,List.take_length,qau,qab,qah]);refine qal ?_);simp [*])
theorem s88 (s:Str) (h:isWord s=true) (hl:s.length≤1040000) (A:St):f88 (.str s) A=some (.ret (.bool true),A):=by
 have h1:=toks_one 1 h
 have h2:=fun A=>s69 s (by omega) 1 _ h1 A
 simp only [lineRes_ok,encRow,List.map_cons,List.map_nil,encL_c] at h2
 unfold f88 n88;dsimp only
 refine qbb ?_
 cases hs:signP s
 ·(repeat' first|(with_reducible first|apply qac|apply qa3|apply qaz|apply qa1|apply qai|apply qag (b:=true)|apply qaa (b:=true)|apply qaa (b:=false)|apply qan|apply qbd|(apply qas;omega)|(apply qbn;omega)|(apply tot_seql_t;first|assumption|with_reducible rfl))|((conv=>arg 2;arg 1;simp (disch:=first|omega|assumption) only [qaq,qbt,lenSl_sl,qav,qa4,List.drop_zero,Nat.zero_add,List.length_cons,List.length_nil,qbc,qaj,qat,ext0,extS,r124,s124,hs,r69,h2,idx_lit1,cellW,cellsW]);(with_reducible first|apply qac|apply qag (b:=true)|apply qaa (b:=true))))
  ((try conv=>arg 2;simp only [qaq,qae,qaw,qar,qad,List.take_length,qau,qab,qah]);refine qal ?_)
  simp
 ·(repeat' first|(with_reducible first|apply qa1|apply qai|apply qaa (b:=true)|apply qap)|((conv=>arg 2;arg 1;simp (disch:=first|omega|assumption) only [qat,r124,s124,hs]);(with_reducible apply qac)))
  ((try conv=>arg 2;simp only [qae,qaw,qar,qad,List.take_length,qau,qab,qah]);refine qal ?_)
  rfl
theorem glued_row {a b:Str} {l:List Word} {A:St} (h2:∀ A,f69 (.str (a++b)) (.int .i64 1) A=some (.ret (lineRes [] (.ok l)),A)) (hl:a.length+b.length≤1040000):f89 (.str a) (.str b) A=some (.ret (.bool (!areTwo a b (.ok l))),A):=by
 simp only [lineRes_ok,encRow] at h2
 unfold f89 n89;dsimp only
 refine qbb ?_
 rcases l with _|⟨v,_|⟨w,_|⟨u,l⟩⟩⟩
 ·(repeat' first|(with_reducible first|apply qac|apply qa3|apply qaz|apply qa1|apply qai|apply qag (b:=false)|apply qaa (b:=false)|apply qbq|apply qba|(apply qb8;omega)|(apply tot_neq_f;omega))|((conv=>arg 2;arg 1;simp (disch:=first|omega|assumption) only [qaq,qak,lenSl_sl,List.map_nil,List.length_nil,encL_nil,qaj,qat,ext0,extS,str_add,r69,h2]);(with_reducible first|apply qac|apply qag (b:=true)|apply qaa (b:=true))))
  ((try conv=>arg 2;simp only [qaq,qae,qaw,qar,qad,List.take_length,qau,qab,qah]);refine qal ?_)
  rfl
 ·(repeat' first|(with_reducible first|apply qac|apply qa3|apply qaz|apply qa1|apply qai|apply qag (b:=false)|apply qaa (b:=false)|apply qbq|apply qba|(apply qb8;omega)|(apply tot_neq_f;omega))|((conv=>arg 2;arg 1;simp (disch:=first|omega|assumption) only [qaq,qak,Nat.zero_add,List.length_cons,List.length_nil,qaj,qat,qa0,List.length_map,ext0,extS,str_add,r69,h2]);(with_reducible first|apply qac|apply qag (b:=true)|apply qaa (b:=true))))
  ((try conv=>arg 2;simp only [qaq,qae,qaw,qar,qad,List.take_length,qau,qab,qah]);refine qal ?_)
  rfl
 ·simp only [List.map_cons,List.map_nil,encL_c] at h2
  (repeat' first|(with_reducible first|apply qac|apply qa3|apply qaz|apply qa1|apply qai|apply qag (b:=false)|apply qaa (b:=false)|apply qbq|apply qba|(apply qb8;omega)|(apply tot_neq_t;omega)|(apply tot_sneq;all_goals intro hsp))|((conv=>arg 2;arg 1;simp (disch:=first|omega|assumption) only [qak,qbt,lenSl_sl,qav,qa4,List.drop_zero,Nat.zero_add,List.length_cons,List.length_nil,qbc,qaj,qat,ext0,extS,Nat.reduceAdd,str_add,r69,h2,idx_two0,idx_two1,cellW,cellsW]);(with_reducible first|apply qac|apply qag (b:=true)|apply qag (b:=false)|apply qaa (b:=true)|apply qaa (b:=false))))
  all_goals (((try conv=>arg 2;simp only [qaq,qak,qae,qaw,qar,qad,List.take_length,qau,qab,qah]);refine qal ?_);simp [areTwo, *])
 ·have hne:¬ ((l.length:Int)+1+1+1=2):=by omega
  (repeat' first|(with_reducible first|apply qac|apply qa3|apply qaz|apply qa1|apply qai|apply qag (b:=false)|apply qaa (b:=false)|apply qbq|apply qba|(apply qb8;omega)|(apply tot_neq_f;omega))|((conv=>arg 2;arg 1;simp (disch:=first|omega|assumption) only [qaq,qak,List.length_cons,qaj,qat,qa0,List.length_map,ext0,extS,str_add,r69,h2]);(with_reducible first|apply qac|apply qag (b:=true)|apply qaa (b:=true))))
  ((try conv=>arg 2;simp only [qaq,qae,qaw,qar,qad,List.take_length,qau,qab,qah]);refine qal ?_)
  rfl
theorem s89 (a b:Str) (ha:isWord a=true) (hb:isWord b=true) (hl:a.length+b.length≤1040000) (A:St):f89 (.str a) (.str b) A=some (.ret (.bool (glued a b)),A):=by
 obtain ⟨x,hx⟩:=toks_some 1 ((a++b).length+1) 0 (a++b) (by omega)
 have h1:=toks_two 1 ha hb hx
 have h2:=fun A=>s69 (a++b) (by rw [List.length_append];omega) 1 _ hx A
 have h3:glued a b=!areTwo a b x:=by rw [h1,Bool.not_not]
 rw [h3]
 rcases x with e|l
 ·simp only [lineRes_err] at h2
  unfold f89 n89;dsimp only
  refine qbb ?_
  (repeat' first|(with_reducible first|apply qac|apply qa3|apply qaz|apply qa1|apply qai|apply qag (b:=true)|apply qaa (b:=true)|apply qbq|(apply tot_geq_t;omega))|((conv=>arg 2;arg 1;simp (disch:=first|omega|assumption) only [qaq,qaj,qat,ext0,extS,str_add,r69,h2]);(with_reducible first|apply qac|apply qag (b:=true)|apply qaa (b:=true))))
  ((try conv=>arg 2;simp only [qaq,qae,qaw,qar,qad,List.take_length,qau,qab,qah]);refine qal ?_)
  rfl
 ·exact glued_row h2 hl
end Go.Vm.Rx
