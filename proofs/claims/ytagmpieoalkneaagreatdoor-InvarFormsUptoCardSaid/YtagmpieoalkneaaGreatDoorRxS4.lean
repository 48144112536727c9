/- RxS2, RxS3, RxS4 in one text. -/
import Derived.Test.YtagmpieoalkneaaGreatDoorRxS1
import Derived.Lib.Bytealg
set_option linter.all false
/- What the readers of one word come to. -/
namespace Go.Vm.Rx
open Go.Proofs P
set_option maxRecDepth 10000
set_option maxHeartbeats 1100000
theorem s148 (s:Str) (A:St):f148 (.str s) A=some (.ret (.bool (pair s)),A):=by
 unfold f148 n148;dsimp only
 refine qbb ?_
 (repeat' first|(with_reducible first|apply qac|apply qa3|apply qaz|apply qai|apply qag (b:=true)|apply qag (b:=false)|apply qaa (b:=true)|apply qaa (b:=false)|apply qbq|apply qba|(apply tot_seql;all_goals intro hsp))|((conv=>arg 2;arg 1;simp only [qaq,qak]);(with_reducible first|apply qag (b:=true)|apply qag (b:=false)|apply qaa (b:=true)|apply qaa (b:=false))))
 all_goals (((try conv=>arg 2;simp only [qaq,qak,qae,qaw,qar,qad,List.take_length,qau,qab,qah]);refine qal ?_);simp [pair, *])
theorem s138 (s:Str) (A:St):f138 (.str s) A=some (.ret (.bool (pair s)),A):=by
 unfold f138 n138;dsimp only
 refine qbb ?_
 (repeat' first|(with_reducible first|apply qac|apply qa3|apply qaz|apply qai|apply qag (b:=true)|apply qag (b:=false)|apply qaa (b:=true)|apply qaa (b:=false)|apply qbq|apply qba|(apply tot_seql;all_goals intro hsp))|((conv=>arg 2;arg 1;simp only [qaq,qak]);(with_reducible first|apply qag (b:=true)|apply qag (b:=false)|apply qaa (b:=true)|apply qaa (b:=false))))
 all_goals (((try conv=>arg 2;simp only [qaq,qak,qae,qaw,qar,qad,List.take_length,qau,qab,qah]);refine qal ?_);simp [pair, *])
theorem s149_loop (c:UInt8) (A:St):∀ (t:Str) (i:Nat),singles.drop i=t→i≤12 →
  LP Tryz.prog rxA 149 [0,1,0,1] [A] (Env.mk (sp [(0,.int .u8 (c.toNat:Int)),(2,.int .i64 (i:Nat))] 8) []) A=some (.ret (.bool (t.contains c)),A):=by
 intro t
 induction t with
 | nil =>
  intro i ht _
  have hl:=qb1 ht
  have e:singles.length=12:=rfl
  refine qbb (qbh (q149_0 ..) ?_)
  unfold n149_0;dsimp only
  (repeat' first|(with_reducible first|apply qai|apply qaa (b:=false)|apply qan)|((conv=>arg 2;arg 1;simp only [Option.map_some,qax,qa6,qa9,qa8]);(with_reducible first|apply qac|(apply qa2;omega))))
  all_goals (((try conv=>arg 2;simp only [qae,qaw,qar,qad,List.take_length,qau,qab,qah]);refine qal ?_);simp)
 | cons d t ih =>
  intro i ht _
  have hl:=qbz ht
  have e:singles.length=12:=rfl
  have hx:=idxStr ht .i64
  unfold singles at hx
  refine qbb (qbh (q149_0 ..) ?_)
  unfold n149_0;dsimp only
  (repeat' first|(with_reducible first|apply tp_gk|apply qai|apply qaa (b:=true)|apply qaa (b:=false)|apply qap|apply qan)|((conv=>arg 2;arg 1;simp (disch:=first|omega|assumption) only [Option.map_some,qbe,qa5,qar,qax,qa6,qa9,qa8,hx]);(with_reducible first|apply qac|apply qbg|(apply qas;omega)|(apply tot_eql;all_goals intro hsp))))
  ·((try conv=>arg 2;simp only [qae,qaw,qar,qad,List.take_length,qau,qab,qah]);refine qal ?_)
   have:c=d:=by apply UInt8.toNat_inj.1;omega
   simp [this]
  ·(refine qay ?_;(conv=>lhs;simp only [qao,qbr,List.take_length,List.map_nil,qa6]);have:=ih (i+1) (qbi ht) (by omega);have hne:¬ c=d:=(by rintro rfl;omega);have e2:(d::t).contains c=t.contains c:=(by simp [hne]);rw [e2];exact this)
theorem s149 (c:UInt8) (A:St):f149 (.int .u8 (c.toNat:Int)) A=some (.ret (.bool (single c)),A):=by
 unfold f149 n149;dsimp only
 exact s149_loop c A singles 0 rfl (by omega)
theorem s193 (s:Str) (c:UInt8) (A:St):Run Tryz.prog rxA 193 [.str s,.int .u8 (c.toNat:Int)] A=some (.ret (.int .i64 (Lib.indexByte s c)),A):=by
 rw [Run_ext _ _ (by decide) rfl]
 simp [indexByteX]
theorem s167 (s:Str) (c:UInt8) (A:St):f167 (.str s) (.int .u8 (c.toNat:Int)) A=some (.ret (.int .i64 (Lib.indexByte s c)),A):=by
 unfold f167 n167;dsimp only
 refine qbb ?_
 (repeat' first|(with_reducible first|apply qa1|apply qai)|((conv=>arg 2;arg 1;simp (disch:=first|omega|assumption) only [s193]);(with_reducible apply qac)))
 all_goals (((try conv=>arg 2;simp only [qae,qao,qar,qad,List.take_length,qaj,qab,qah]);refine qal ?_);rfl)
theorem s139 (s:Str) (c:UInt8) (A:St):f139 (.str s) (.int .u8 (c.toNat:Int)) A=some (.ret (.int .i64 (Lib.indexByte s c)),A):=by
 unfold f139 n139;dsimp only
 refine qbb ?_
 (repeat' first|(with_reducible first|apply qa1|apply qai)|((conv=>arg 2;arg 1;simp (disch:=first|omega|assumption) only [qaj,qat,r167,s167]);(with_reducible apply qac)))
 all_goals (((try conv=>arg 2;simp only [qae,qao,qar,qad,List.take_length,qaj,qab,qah]);refine qal ?_);rfl)
theorem idx_low (s:Str) (c:UInt8):-1≤Lib.indexByte s c:=by
 induction s with
 | nil=>simp [Lib.indexByte]
 | cons b l ih =>
  unfold Lib.indexByte
  split
  ·omega
  ·split
   ·omega
   ·omega
theorem idx_contains (s:Str) (c:UInt8):s.contains c=decide (0≤Lib.indexByte s c):=by
 induction s with
 | nil=>simp [Lib.indexByte]
 | cons b l ih =>
  have:=idx_low l c
  unfold Lib.indexByte
  by_cases h:b=c
  ·subst h;simp
  ·have h':¬ c=b:=fun e=>h e.symm
   simp only [List.contains_cons,ih]
   have e1:(c == b)=false:=by simp [h']
   have e2:(b == c)=false:=by simp [h]
   rw [e1,e2]
   simp only [Bool.false_or,Bool.false_eq_true,if_false]
   split
   ·rename_i h1
    have:Lib.indexByte l c=-1:=by simpa using h1
    rw [this]
   ·congr 1
    rename_i h1
    have:¬ Lib.indexByte l c=-1:=by simpa using h1
    apply propext
    omega
theorem take_pre (s p:Str) (h:p.length≤s.length):(s.take p.length=p)↔p.isPrefixOf s=true:=by
 rw [List.isPrefixOf_iff_prefix]
 constructor
 ·intro e;rw [← e];exact List.take_prefix _ _
 ·rintro ⟨t,rfl⟩;simp
theorem s168 (s p:Str) (hs:s.length<4611686018427387904) (A:St):f168 (.str s) (.str p) A=some (.ret (.bool (p.isPrefixOf s)),A):=by
 unfold f168 n168;dsimp only
 refine qbb ?_
 (repeat' first|(with_reducible first|apply qac|apply qa3|apply qaz|apply qai|apply qag (b:=true)|apply qag (b:=false)|apply qaa (b:=true)|apply qaa (b:=false)|apply qbd|apply qbj|(apply tot_geq;all_goals intro hsp)|(apply tot_seql;all_goals intro hsp))|((conv=>arg 2;arg 1;simp (disch:=first|omega|assumption) only [qb0,Int.toNat_natCast,slStr_to]);(with_reducible apply qac)))
 ·((try conv=>arg 2;simp only [qaq,qae,qaw,qar,qad,List.take_length,qau,qab,qah]);refine qal ?_)
  have:=(take_pre s p (by omega)).1 (by assumption)
  simp [this]
 ·((try conv=>arg 2;simp only [qaq,qae,qaw,qar,qad,List.take_length,qau,qab,qah]);refine qal ?_)
  have:¬ p.isPrefixOf s=true:=fun h=>absurd ((take_pre s p (by omega)).2 h) (by assumption)
  simp only [Bool.not_eq_true] at this
  simp [this]
 ·((try conv=>arg 2;simp only [qak,qae,qaw,qar,qad,List.take_length,qau,qab,qah]);refine qal ?_)
  have:¬ p.isPrefixOf s=true:=by
   rw [List.isPrefixOf_iff_prefix]
   intro h
   have:=h.length_le
   omega
  simp only [Bool.not_eq_true] at this
  simp [this]
theorem s140 (s p:Str) (hs:s.length<4611686018427387904) (A:St):f140 (.str s) (.str p) A=some (.ret (.bool (p.isPrefixOf s)),A):=by
 unfold f140 n140;dsimp only
 refine qbb ?_
 (repeat' first|(with_reducible first|apply qa1|apply qai)|((conv=>arg 2;arg 1;simp (disch:=first|omega|assumption) only [qat,r168,s168]);(with_reducible apply qac)))
 all_goals (((try conv=>arg 2;simp only [qae,qaw,qar,qad,List.take_length,qau,qab,qah]);refine qal ?_);rfl)
theorem wlen_cons (c:UInt8) (r:Str):wlen (c::r)=if decide (1≤r.length) && pair ((c::r).take 2) then 2 else if single c then 1 else run (c::r):=rfl
theorem wlen_pair {c:UInt8} {t:Str} (h:1≤t.length) (h2:pair ((c::t).take 2)=true):wlen (c::t)=2:=by
 rw [wlen_cons,h2,decide_eq_true h];rfl
theorem wlen_np {c:UInt8} {t:Str} (h:t.length<1∨pair ((c::t).take 2)=false):wlen (c::t)=if single c then 1 else run (c::t):=by
 rw [wlen_cons]
 rcases h with h|h
 ·rw [decide_eq_false (by omega)];rfl
 ·rw [h,Bool.and_false];rfl
theorem wlen_single {c:UInt8} {t:Str} (h:t.length<1∨pair ((c::t).take 2)=false) (h2:single c=true):wlen (c::t)=1:=by rw [wlen_np h,h2];rfl
theorem wlen_run {c:UInt8} {t:Str} (h:t.length<1∨pair ((c::t).take 2)=false) (h2:single c=false):wlen (c::t)=run (c::t):=by rw [wlen_np h,h2];rfl
theorem pre2 (c:UInt8) (t:Str):[45,62].isPrefixOf (c::t)=((c::t).take 2 == [45,62]):=by
 cases t with
 | nil=>simp [List.isPrefixOf]
 | cons d t =>
  simp only [List.isPrefixOf,List.take_succ_cons,List.take_zero]
  rw [show ((45:UInt8) == c)=(c == 45) from BEq.comm,show ((62:UInt8) == d)=(d == 62) from BEq.comm]
  rfl
theorem s115_loop (s:Str) (hs:s.length<4611686018427387904) (a:Nat) (A:St):∀ (t:Str) (n:Nat),s.drop n=t→a≤n→n≤s.length →
  LP Tryz.prog rxA 115 [0,0,1,1,1,1] [A] (Env.mk (sp [(0,.str s),(0,.int .i64 (a:Nat)),(3,.int .i64 (n:Nat))] 49) []) A=some (.ret (.int .i64 ((n:Int)+(run t:Nat) - a)),A):=by
 intro t
 induction t with
 | nil =>
  intro n ht h1 h2
  have hl:=qb1 ht
  refine qbb (qbh (q115_0 ..) ?_)
  unfold n115_0;dsimp only
  (repeat' first|(with_reducible first|apply qac|apply qa3|apply qaz|apply qa1|apply qai|apply qag (b:=false)|apply tot_gbn|apply qaa (b:=false)|apply qan|apply qbj)|((conv=>arg 2;arg 1;simp (disch:=first|omega|assumption) only [qak,Option.map_some,qb9,qa5,qax,qb0,qa6,qa9,qa8]);(with_reducible first|apply qac|apply qag (b:=false)|apply qaa (b:=false)|(apply qa2;omega))))
  all_goals (((try conv=>arg 2;simp only [qae,qao,qar,qad,List.take_length,qaj,qab,qah]);refine qal ?_);simp [run])
 | cons c t ih =>
  intro n ht h1 h2
  have hl:=qbz ht
  have hx:=idxStr ht .i64
  have hp:=pre2 c t
  have hd:∀ k:Nat,(s.take (n+k)).drop n=(c::t).take k:=fun k=>by rw [List.drop_take,ht];congr 1;omega
  refine qbb (qbh (q115_0 ..) ?_)
  unfold n115_0;dsimp only
  (repeat' first|(with_reducible first|apply qac|apply qa3|apply qaz|apply qa1|apply tp_gk|apply qai|apply qag (b:=true)|apply qag (b:=false)|apply tot_gbn|apply qaa (b:=true)|apply qaa (b:=false)|apply qap|apply qan|apply qbd|apply qbj|(apply tot_leq;all_goals intro hsp)|(apply tot_seql;all_goals intro hsp))|((conv=>arg 2;arg 1;simp (disch:=first|omega|assumption) only [qaq,qak,Option.map_some,qbe,qb9,qa5,qar,qax,qb0,qb5,Bool.not_true,Bool.not_false,qa6,qa9,qa8,qaj,Int.toNat_natCast,toNat_a2,slStr_mid,r92,s92,hx]);(with_reducible first|apply qac|apply qbg|apply qaa (b:=true)|apply qaa (b:=false)|(apply qas;omega)|(apply tot_gb_t;assumption)|(apply tot_gb_f;assumption)|(apply tot_bq_t;assumption)|(apply tot_bq_f;assumption)|(apply tot_gb;all_goals intro hsp))))
  ·((try conv=>arg 2;simp only [qae,qao,qar,qad,List.take_length,qaj,qab,qah]);refine qal ?_)
   rw [hd 2] at *
   have:[45,62].isPrefixOf (c::t)=true:=by rw [hp];simpa using ‹List.take 2 (c::t)=[45,62]›
   simp [run,this]
  ·rw [hd 2] at *
   have e:[45,62].isPrefixOf (c::t)=false:=by rw [hp];simpa using ‹¬List.take 2 (c::t)=[45,62]›
   have e2:run (c::t)=run t+1:=by simp [run,e, *]
   have:=ih (n+1) (qbi ht) (by omega) (by omega)
   have e3:((n:Int)+((run t+1:Nat):Int) - a)=(((n+1:Nat):Int)+(run t:Nat) - a):=by omega
   (refine qay ?_;(conv=>lhs;simp only [qao,qbr,shut_strD,List.take_length,List.map_nil,qa6,qa8]);rw [e2,e3];exact this)
  ·have hl2:=congrArg List.length ht
   simp only [List.length_drop,List.length_cons] at hl2
   have ht0:t=[]:=List.eq_nil_of_length_eq_zero (by omega)
   subst ht0
   have e2:run [c]=run []+1:=by simp [run,List.isPrefixOf, *]
   have:=ih (n+1) (qbi ht) (by omega) (by omega)
   have e3:((n:Int)+((run []+1:Nat):Int) - a)=(((n+1:Nat):Int)+(run []:Nat) - a):=by omega
   (refine qay ?_;(conv=>lhs;simp only [qao,qbr,shut_strD,List.take_length,List.map_nil,qa6,qa8]);rw [e2,e3];exact this)
  ·((try conv=>arg 2;simp only [qae,qao,qar,qad,List.take_length,qaj,qab,qah]);refine qal ?_)
   have e2:run (c::t)=0:=by simp [run, *]
   rw [e2]
   simp
theorem s115 (s:Str) (hs:s.length<4611686018427387904) (i:Nat) (c:UInt8) (t:Str) (ht:s.drop i=c::t) (A:St):f115 (.str s) (.int .i64 (i:Nat)) A=some (.ret (.int .i64 (wlen (c::t):Nat)),A):=by
 have hl:=qbz ht
 have hx:=idxStr ht .i64
 have hd:∀ k:Nat,(s.take (i+k)).drop i=(c::t).take k:=fun k=>by rw [List.drop_take,ht];congr 1;omega
 have hl2:=congrArg List.length ht
 simp only [List.length_drop,List.length_cons] at hl2
 have hlo:=s115_loop s hs i A (c::t) i ht (by omega) (by omega)
 have e3:((i:Int)+(run (c::t):Nat) - i)=(run (c::t):Nat):=by omega
 rw [e3] at hlo
 unfold f115 n115;dsimp only
 refine qbb ?_
 (repeat' first|(with_reducible first|apply qac|apply qa3|apply qaz|apply qa1|apply qai|apply qag (b:=true)|apply qag (b:=false)|apply qaa (b:=true)|apply qaa (b:=false)|apply qap|apply qan|apply qbd|apply qbj|(apply tot_leq;all_goals intro hsp)|(apply tot_bq;all_goals intro hsp))|((conv=>arg 2;arg 1;simp (disch:=first|omega|assumption) only [qaq,qak,qbe,qa5,qb0,qaj,qat,Int.toNat_natCast,toNat_a2,slStr_mid,r148,s148,r149,s149,hx,hd]);(with_reducible first|apply qac|apply qaa (b:=false)|(apply tot_bq;all_goals intro hsp))))
 ·((try conv=>arg 2;simp only [qae,qao,qar,qad,List.take_length,qaj,qab,qah]);refine qal ?_)
  rw [wlen_pair (by omega) (by assumption)];rfl
 ·((try conv=>arg 2;simp only [qae,qao,qar,qad,List.take_length,qaj,qab,qah]);refine qal ?_)
  rw [wlen_single (.inr (by assumption)) (by assumption)];rfl
 ·rw [wlen_run (.inr (by assumption)) (by assumption)]
  (refine qay ?_;(conv=>lhs;simp only []);exact hlo)
 ·((try conv=>arg 2;simp only [qae,qao,qar,qad,List.take_length,qaj,qab,qah]);refine qal ?_)
  rw [wlen_single (.inl (by omega)) (by assumption)];rfl
 ·rw [wlen_run (.inl (by omega)) (by assumption)]
  (refine qay ?_;(conv=>lhs;simp only []);exact hlo)
theorem s108_loop (u:Str) (hs:u.length<4611686018427387904) (A B:St):∀ (t:Str) (n:Nat),u.drop n=t→n≤u.length →
  LP Tryz.prog rxA 108 [0,0,1,1,1,1,1] [A] (Env.mk (sp [(3,.str u),(0,.int .i64 (n:Nat))] 42) []) A=some (.ret (.int .i64 ((n:Int)+(run t:Nat))),A):=by
 intro t
 induction t with
 | nil =>
  intro n ht h2
  have hl:=qb1 ht
  refine qbb (qbh (q108_0 ..) ?_)
  unfold n108_0;dsimp only
  (repeat' first|(with_reducible first|apply qac|apply qa3|apply qaz|apply qa1|apply qai|apply qag (b:=false)|apply qaa (b:=false)|apply qan|apply qbj)|((conv=>arg 2;arg 1;simp only [qak,Option.map_some,qax,qb0,qa6,qa9,qa8]);(with_reducible first|apply qac|apply qag (b:=false)|apply qaa (b:=false)|(apply qa2;omega))))
  all_goals (((try conv=>arg 2;simp only [qae,qao,qar,qad,List.take_length,qaj,qab,qah]);refine qal ?_);simp [run])
 | cons c t ih =>
  intro n ht h2
  have hl:=qbz ht
  have hx:=idxStr ht .i64
  have hd:u.drop n=c::t:=ht
  have hpl:(u.drop n).length<4611686018427387904:=by rw [List.length_drop];omega
  refine qbb (qbh (q108_0 ..) ?_)
  unfold n108_0;dsimp only
  (repeat' first|(with_reducible first|apply qac|apply qa3|apply qaz|apply qa1|apply tp_gk|apply qai|apply qag (b:=true)|apply qag (b:=false)|apply qaa (b:=true)|apply qap|apply qan|apply qbd|apply qbj|apply tot_if_n|(apply tot_bq;all_goals intro hsp))|((conv=>arg 2;arg 1;simp (disch:=first|omega|assumption) only [qaq,qak,Option.map_some,qbe,qa5,qar,qax,qb0,qb5,qa6,qa9,qa8,qaj,qat,Int.toNat_natCast,slStr_from,r78,s78,hx,r140,s140]);(with_reducible first|apply qac|apply qbg|apply qaa (b:=false)|apply tot_bq_n|(apply qas;omega)|(apply tot_gb_t;assumption)|(apply tot_gb_f;assumption)|(apply tot_bq_t;assumption)|(apply tot_bq_f;assumption)|(apply tot_gb;all_goals intro hsp))))
  ·((try conv=>arg 2;simp only [qae,qao,qar,qad,List.take_length,qaj,qab,qah]);refine qal ?_)
   rw [hd] at *
   have:run (c::t)=0:=by simp [run, *]
   rw [this];simp
  ·rw [hd] at *
   have e2:run (c::t)=run t+1:=by simp [run, *]
   have:=ih (n+1) (qbi ht) (by omega)
   have e3:((n:Int)+((run t+1:Nat):Int))=(((n+1:Nat):Int)+(run t:Nat)):=by omega
   (refine qay ?_;(conv=>lhs;simp only [qao,qbr,shut_strD,List.take_length,List.map_nil,qa6,qa9]);rw [e2,e3];exact this)
  ·((try conv=>arg 2;simp only [qae,qao,qar,qad,List.take_length,qaj,qab,qah]);refine qal ?_)
   have:run (c::t)=0:=by simp [run, *]
   rw [this];simp
def rcells (line at_:Int) (s:Str) (o:D):List D:=[.int .i64 line,.int .i64 at_,.str s,o]
theorem s108 (k:Nat) (line:Int) (s:Str) (o:D) (hs:s.length<4611686018427387904) (i:Nat) (c:UInt8) (t:Str) (ht:s.drop i=c::t) (A:St) (hk:k<A.length) :
  f108 (.ref k 0) (st A k (rcells line i s o))=some (.ret (.int .i64 (wlen (c::t):Nat)),st A k (rcells line i s o)):=by
 have hl:=qbz ht
 have hl2:=congrArg List.length ht
 simp only [List.length_drop,List.length_cons] at hl2
 have hlo:=fun B=>s108_loop (c::t) (by simp only [List.length_cons];omega) B B (c::t) 0 rfl (by omega)
 have e3:(((0:Nat):Int)+(run (c::t):Nat))=(run (c::t):Nat):=by omega
 simp only [e3] at hlo
 have hsi:∀ x:Int,decide (x ≥ 0)=decide (0≤x):=fun x=>rfl
 have hsl:single c=decide (0≤Lib.indexByte [40,41,44,124,42,43,63,46,36,61,60,62] c):=idx_contains singles c
 have hlc:(c::t).length=t.length+1:=rfl
 unfold f108 n108 rcells;dsimp only
 refine qbb ?_
 (repeat' first|(with_reducible first|apply qac|apply qa3|apply qaz|apply qa1|apply qai|apply qag (b:=true)|apply qag (b:=false)|apply qaa (b:=true)|apply qaa (b:=false)|apply qap|apply qan|apply qbd|apply qbj|(apply tot_gtr;all_goals intro hsp)|(apply tot_geq;all_goals intro hsp))|((conv=>arg 2;arg 1;simp (disch:=first|omega|assumption) only [qaq,qak,nilCheck_ref,qaf,qb0,qa4,qb3,Nat.zero_add,Nat.add_zero,List.length_cons,qaj,qat,st_load,Int.toNat_natCast,Int.reduceToNat,slStr_to,slStr_from,idxStr0,r138,s138,r139,s139,ht]);(with_reducible first|apply qac|apply qaa (b:=false)|(apply tot_bq;all_goals intro hsp))))
 ·((try conv=>arg 2;simp only [qae,qao,qar,qad,qaj,qab,qah,st_length,st_take]);refine qal ?_)
  rw [wlen_pair (by omega) (by assumption)];rfl
 ·((try conv=>arg 2;simp only [qae,qao,qar,qad,qaj,qab,qah,st_length,st_take]);refine qal ?_)
  rw [wlen_single (.inr (by assumption)) (by rw [hsl];simpa using ‹Lib.indexByte _ c ≥ 0›)];rfl
 ·rw [wlen_run (.inr (by assumption)) (by rw [hsl];simpa using ‹¬Lib.indexByte _ c ≥ 0›)]
  (refine qay ?_;(conv=>lhs;simp only []);exact hlo _)
 ·((try conv=>arg 2;simp only [qae,qao,qar,qad,qaj,qab,qah,st_length,st_take]);refine qal ?_)
  rw [wlen_single (.inl (by omega)) (by rw [hsl];simpa using ‹Lib.indexByte _ c ≥ 0›)];rfl
 ·rw [wlen_run (.inl (by omega)) (by rw [hsl];simpa using ‹¬Lib.indexByte _ c ≥ 0›)]
  (refine qay ?_;(conv=>lhs;simp only []);exact hlo _)
end Go.Vm.Rx

/- What the readers of lines come to. -/
namespace Go.Vm.Rx
open Go.Proofs P
set_option maxRecDepth 10000
set_option maxHeartbeats 1100000
def cellsW (w:Word):List D:=[.str w.t,.int .i64 w.line,.int .i64 w.col]
def encW (w:Word):D:=.agg (cellsW w)
theorem plainW (w:Word):Plain (encW w):=⟨fun n=>rfl,rfl⟩
theorem plainWs (l:List Word):PlainL (l.map encW):=PlainL.map plainW l
theorem cellW (w:Word):(encW w).cellsT true=some (cellsW w):=rfl
theorem loadW (w:Word):ofCells true (cellsW w) 0 3=some (encW w):=rfl
theorem spartsW (t:Str) (a b:Int):sliceParts 3 true 0 [(0,.agg [.str t,.int .i64 a,.int .i64 b])]=some [.agg [.str t,.int .i64 a,.int .i64 b]]:=rfl
def lineRes (ws:List Word):Except Nat (List Word)→D
 | .ok l=>.tup [encL 3 ((ws++l).map encW),.int .i64 (-1)]
 | .error a=>.tup [.sl .sh 0 [],.int .i64 (a:Nat)]
theorem s69_loop (s:Str) (hs:s.length≤100000000) (n:Int) (A:St):∀ (f i:Nat) (ws:List Word) (b:Option Nat) (t:Str) (x:Except Nat (List Word)),s.drop i=t→toks n f i t=some x→ws.length≤i→AccOk b 3 (ws.map encW) →
  LP Tryz.prog rxA 69 [0,1,0,1,1] [A] (Env.mk (sp [(0,.str s),(0,.int .i64 n),(4,accD b A.length 3 (ws.map encW)),(0,.int .i64 (i:Nat))] 46) []) (accA b A (ws.map encW))=some (.ret (lineRes ws x),A):=by
 intro f
 induction f with
 | zero=>intro i ws b t x ht hx;cases hx
 | succ f ih =>
  intro i ws b t x ht hx hw hb
  refine qbb (qbh (q69_0 ..) ?_)
  unfold n69_0;dsimp only
  have hK:=accA_Kept b A (ws.map encW)
  have hT:=accA_take b A (ws.map encW)
  have hS:=fun m=>acc_shut (c:=A.length) (m:=m) hb (plainWs ws)
  cases t with
  | nil =>
   have hl:=qb1 ht
   rw [toks_nil] at hx
   cases hx
   (repeat' first|(with_reducible first|apply qac|apply qa3|apply qaz|apply qai|apply qag (b:=false)|apply qaa (b:=false)|apply qan|apply qbj)|((conv=>arg 2;arg 1;simp only [qak,Option.map_some,qax,qb0,qa6,qa9,qa8]);(with_reducible first|apply qac|apply qaa (b:=false)|(apply qa2;omega))))
   all_goals (((try conv=>arg 2;simp (disch:=first|omega|assumption) only [qae,qao,shut_tup,qby,qbv,qad,qaj,qb7,qbu,qbm,qab,qah,hK,hT,hS]);refine qal ?_);simp [lineRes])
  | cons c t =>
   have hl:=qbz ht
   have hix:=idxStr ht .i64
   have hne:=s115 s (by omega) i c t ht
   have hl2:=congrArg List.length ht
   simp only [List.length_drop,List.length_cons] at hl2
   have hwl:=wlen_le (c::t)
   simp only [List.length_cons] at hwl
   rw [toks_cons] at hx
   have hd:(s.take (i+wlen (c::t))).drop i=(c::t).take (wlen (c::t)):=by rw [List.drop_take,ht];congr 1;omega
   have hm:(((i:Nat):Int)+((wlen (c::t):Nat):Int)).toNat=i+wlen (c::t):=by omega
   have hap:=app_acc1 (w:=32) (A:=A) (d:=encW ⟨(c::t).take (wlen (c::t)),n,i+1⟩) hb (by simp;omega) (by omega)
   simp only [encW,cellsW] at hap
   (repeat' first|(with_reducible first|apply qac|apply tp_bnbn|apply qa3|apply qaz|apply qa1|apply qai|apply qag (b:=true)|apply qag (b:=false)|apply qaa (b:=true)|apply qaa (b:=false)|apply qap|apply qan|apply qbd|apply qbq|apply qba|(apply tot_eql;all_goals intro hsp)|(apply tot_neq;all_goals intro hsp))|((conv=>arg 2;arg 1;simp (disch:=first|omega|assumption) only [qaq,qak,Option.map_some,qbe,qa5,qax,qb0,lay_int,lay_s,qa6,qa9,qa8,qaj,qat,Int.toNat_natCast,lay_str,slStr_mid,hix,hne,r115,spartsW,hd,hm,hap]);(with_reducible first|apply qac|apply qaa (b:=true)|apply qaa (b:=false)|(apply qas;omega))))
   ·((try conv=>arg 2;simp (disch:=first|omega|assumption) only [qae,qao,shut_tup,qby,qbv,qad,qaj,qb7,qbu,qbm,qab,qah,hK,hT,hS]);refine qal ?_)
    rw [if_pos (by omega)] at hx
    cases hx
    simp [lineRes]
   ·rw [if_neg (by omega),if_pos (by omega)] at hx
    have:=ih (i+1) ws b t x (qbi ht) hx (by omega) hb
    (refine qay ?_;(conv=>lhs;simp only [qa6,qa9,qa8]);exact this)
   ·rw [if_neg (by omega),if_pos (by omega)] at hx
    have:=ih (i+1) ws b t x (qbi ht) hx (by omega) hb
    (refine qay ?_;(conv=>lhs;simp only [qa6,qa9,qa8]);exact this)
   ·((try conv=>arg 2;simp (disch:=first|omega|assumption) only [qae,qao,shut_sl,shut_tup,qby,qbv,own_full,qad,qaj,qb7,qbu,qbm,canon_nil,qab,qah,hK,hT]);refine qal ?_)
    rw [if_neg (by omega),if_neg (by omega),if_pos (by omega)] at hx
    cases hx
    simp [lineRes]
   ·rw [if_neg (by omega),if_neg (by omega),if_neg (by omega)] at hx
    simp only [Option.map_eq_some_iff] at hx
    obtain ⟨y,hy,rfl⟩:=hx
    have:=ih (i+wlen (c::t)) (ws++[⟨(c::t).take (wlen (c::t)),n,i+1⟩]) none _ y (by rw [← List.drop_drop,ht]) hy (by simp;omega) (.own _ _)
    have e:lineRes ws (y.map fun l=>⟨(c::t).take (wlen (c::t)),n,((i:Nat):Int)+1⟩::l)=lineRes (ws++[⟨(c::t).take (wlen (c::t)),n,i+1⟩]) y:=by
     cases y<;>simp [lineRes,Except.map]
    (refine qay ?_;(conv=>lhs;simp only [qa6,qa8]);rw [e];simp only [List.map_append,List.map_cons,List.map_nil] at this;exact this)
theorem s69 (s:Str) (hs:s.length≤100000000) (n:Int) (x:Except Nat (List Word)) (hx:toks n (s.length+1) 0 s=some x) (A:St):f69 (.str s) (.int .i64 n) A=some (.ret (lineRes [] x),A):=by
 unfold f69 n69;dsimp only
 exact s69_loop s hs n A _ 0 [] (some 0) s x rfl hx (by simp) (.nil 3)
end Go.Vm.Rx

/- What the program's reader of a line comes to. -/
namespace Go.Vm.Rx
open Go.Proofs P
set_option maxRecDepth 10000
set_option maxHeartbeats 1100000
theorem s107 (k:Nat) (line at_ m:Int) (s:Str) (o:D) (A:St) (hk:k<A.length) (ho:o.shut A.length=o) (h1:-9223372036854775808≤at_+m) (h2:at_+m≤9223372036854775807) :
  f107 (.ref k 0) (.int .i64 m) (st A k [.int .i64 line,.int .i64 at_,.str s,o])=some (.ret (.tup []),st A k [.int .i64 line,.int .i64 (at_+m),.str s,o]):=by
 have hK:∀ a b:Int,Kept (st A k [.int .i64 line,.int .i64 a,.str s,o]) (st A k [.int .i64 line,.int .i64 b,.str s,o])↔True:=fun a b=>Kept_st2 (by simp [ho])
 unfold f107 n107;dsimp only
 refine qbb ?_
 (repeat' first|(with_reducible first|apply qa3|apply qai)|((conv=>arg 2;arg 1;simp (disch:=first|omega|assumption) only [Option.map_some,qbe,qa5,nilCheck_ref,qaf,qa4,qb3,Nat.zero_add,lay_int,lay_s,qbc,st_load,st_store]);(with_reducible apply qac)))
 ((try conv=>arg 2;simp (disch:=first|omega|assumption) only [qae,shut_tup,qby,qad,qb7,qbu,qab,qah,st_length,st_take,hK]);refine qal ?_)
 rfl
def stR (A:St) (k c:Nat) (line at_:Int) (s:Str) (ws:List Word):St:=st (A.set c (.tok ws.length)) k [.int .i64 line,.int .i64 at_,.str s,.sl (.own c 0) 3 (ws.map encW)]
def readOut (A:St) (k c:Nat) (line:Int) (s:Str) (ws:List Word) (x:Except Nat (List Word)) (r:Res×St):Prop :=
 match x with
 | .ok l=>∃ j,r=(.ret (.tup []),stR A k c line j s (ws++l))
 | .error a=>∃ ws',r=(.pan (.iface 101 (.agg [.int .i64 line,.int .i64 ((a:Int)+1)])),stR A k c line a s ws')
theorem app_stR {A:St} {k c:Nat} {line at_:Int} {s:Str} {ws:List Word} {w:Word} (hc:c<A.length) (hk:k<A.length) (hkc:k≠c) (hl:ws.length≤100000000) :
  appendO 3 32 (.sl (.own c 0) 3 (ws.map encW)) (.sl .full 3 [encW w]) (stR A k c line at_ s ws)=some (.sl (.own c 0) 3 ((ws++[w]).map encW),(stR A k c line at_ s ws).set c (.tok (ws.length+1))):=by
 rw [append_own (s0:=0) (new:=[encW w]) (by simp [appendNew,esOk]) (by
  unfold stR
  rw [st_other (Ne.symm hkc),List.getElem?_set_self hc]
  simp) (by simp [roomOk];omega) (by simp;omega)]
 simp
theorem set_stR {A:St} {k c:Nat} {cs:List D} {s s':Slot} (hkc:k≠c):(st (A.set c s) k cs).set c s'=st (A.set c s') k cs:=by
 unfold st
 rw [List.set_comm _ _ hkc,List.set_set]
theorem stR_app (A:St) (k c:Nat) (line at_:Int) (s:Str) (ws:List Word) (w:Word):st (A.set c (.tok (ws.length+1))) k [.int .i64 line,.int .i64 at_,.str s,.sl (.own c 0) 3 ((ws++[w]).map encW)]=stR A k c line at_ s (ws++[w]):=by
 unfold stR;rw [List.length_append];rfl
theorem s61_loop (s:Str) (hs:s.length≤100000000) (n:Int) (A B:St) (k c:Nat) (hk:k<A.length) (hc:c<A.length) (hkc:k≠c):∀ (f i:Nat) (ws:List Word) (t:Str) (x:Except Nat (List Word)),s.drop i=t→toks n f i t=some x→ws.length≤i →
  Tot (readOut A k c n s ws x) (LP Tryz.prog rxA 61 [0] [B] (Env.mk (sp [(0,.ref k 0)] 107) []) (stR A k c n i s ws)):=by
 intro f
 induction f with
 | zero=>intro i ws t x ht hx;cases hx
 | succ f ih =>
  intro i ws t x ht hx hw
  refine qbh (q61_0 ..) ?_
  unfold n61_0;dsimp only
  have hk':k<(A.set c (.tok ws.length)).length:=by simpa using hk
  have hix:=fun c t (h:s.drop i=c::t)=>idxStr h .i64
  have hld:∀ (g:Bool) (m off:Nat),loadO g m (.ref k off) (stR A k c n i s ws)=ofCells g [.int .i64 n,.int .i64 (i:Nat),.str s,.sl (.own c 0) 3 (ws.map encW)] off m:=fun g m off=>st_load hk'
  have hst:(stR A k c n i s ws)=st (A.set c (.tok ws.length)) k [.int .i64 n,.int .i64 (i:Nat),.str s,.sl (.own c 0) 3 (ws.map encW)]:=rfl
  have ho:(D.sl (.own c 0) 3 (ws.map encW)).shut (A.set c (.tok ws.length)).length=D.sl (.own c 0) 3 (ws.map encW):=by
   simp [own_own 0 hc,(plainWs ws).shut]
  have hsp1:i≤s.length→Run Tryz.prog rxA 107 [.ref k 0,.int .i64 1] (stR A k c n i s ws)=some (.ret (.tup []),stR A k c n ((i:Int)+1) s ws):=fun h=>by
   rw [r107]
   exact s107 k n i 1 s _ _ hk' ho (by omega) (by omega)
  cases t with
  | nil =>
   have hl:=qb1 ht
   rw [toks_nil] at hx
   cases hx
   (repeat' first|(with_reducible first|apply qac|apply qa3|apply qaz|apply qai|apply qag (b:=false)|apply qaa (b:=false)|apply qan|apply qbj|(apply qa2;omega))|((conv=>arg 2;arg 1;simp (disch:=first|omega|assumption) only [qak,Option.map_some,qax,nilCheck_ref,qaf,qb0,qa4,qb3,Nat.zero_add,Nat.add_zero,qa6,hld]);(with_reducible first|apply qac|apply qaa (b:=false))))
   all_goals (((try conv=>arg 2;simp only [leave_keep]);refine qal ?_);exact ⟨i,by simp⟩)
  | cons d t =>
   have hl:=qbz ht
   have hi:=idxStr ht .i64
   have hl2:=congrArg List.length ht
   simp only [List.length_drop,List.length_cons] at hl2
   have hwl:=wlen_le (d::t)
   simp only [List.length_cons] at hwl
   have hne:Run Tryz.prog rxA 108 [.ref k 0] (stR A k c n i s ws)=some (.ret (.int .i64 (wlen (d::t):Nat)),stR A k c n i s ws):=by
    rw [r108]
    exact s108 k n s (.sl (.own c 0) 3 (ws.map encW)) (by omega) i d t ht _ hk'
   have hd:(s.take (i+wlen (d::t))).drop i=(d::t).take (wlen (d::t)):=by rw [List.drop_take,ht];congr 1;omega
   have hm:(((i:Nat):Int)+((wlen (d::t):Nat):Int)).toNat=i+wlen (d::t):=by omega
   have hap:=app_stR (A:=A) (line:=n) (at_:=i) (s:=s) (ws:=ws) (w:=⟨(d::t).take (wlen (d::t)),n,i+1⟩) hc hk hkc (by omega)
   have hse:∀ x,(stR A k c n i s ws).set c (.tok x)=st (A.set c (.tok x)) k [.int .i64 n,.int .i64 (i:Nat),.str s,.sl (.own c 0) 3 (ws.map encW)]:=fun x=>set_stR hkc
   simp only [encW,cellsW] at hap
   have hk2:∀ x,k<(A.set c (.tok x)).length:=fun x=>by simpa using hk
   have hst2:=fun w=>stR_app A k c n i s ws w
   have hk3:=hk2 (ws.length+1)
   have hpl:D.shutL A.length ((ws++[(⟨(d::t).take (wlen (d::t)),n,i+1⟩:Word)]).map encW)=(ws++[(⟨(d::t).take (wlen (d::t)),n,i+1⟩:Word)]).map encW:=(plainWs _).shut _
   have hsp2:Run Tryz.prog rxA 107 [.ref k 0,.int .i64 (wlen (d::t):Nat)] (stR A k c n i s (ws++[⟨(d::t).take (wlen (d::t)),n,i+1⟩]))=some (.ret (.tup []),stR A k c n ((i:Int)+(wlen (d::t):Nat)) s (ws++[⟨(d::t).take (wlen (d::t)),n,i+1⟩])):=by
    rw [r107]
    exact s107 k n i (wlen (d::t):Nat) s _ _ (by simpa using hk) (by rw [List.length_set,shut_sl,own_own 0 hc,hpl]) (by omega) (by omega)
   rw [toks_cons] at hx
   have hsp1':=hsp1 (by omega)
   (repeat' first|(with_reducible first|(apply tot_jn;intro hkk hke)|(apply tot_jk;· assumption)|apply qac|apply tp_bnbn|apply qa3|apply qaz|apply qa1|apply qai|apply qag (b:=true)|apply qag (b:=false)|apply qaa (b:=true)|apply qaa (b:=false)|apply qap|apply qan|apply qbd|apply qbq|apply qba|(apply qas;omega)|(apply tot_eql;all_goals intro hsp)|(apply tot_neq;all_goals intro hsp))|((conv=>arg 2;arg 1;simp (disch:=first|omega|assumption) only [qaq,qak,Option.map_some,qbe,qa5,qax,nilCheck_ref,qaf,qb0,qa4,qb3,Nat.zero_add,Nat.add_zero,lay_int,lay_sl,lay_s,qa6,qbc,st_store,Int.toNat_natCast,lay_str,slStr_mid,eg_0,eg_S,hld,hi,hne,hsp1',hd,hm,spartsW,hap,hse,hst2,hsp2]);(with_reducible first|apply qac|apply qaa (b:=true)|apply qaa (b:=false))))
   ·((try conv=>arg 2;simp only [leave_keep]);refine qal ?_)
    rw [if_pos (by omega)] at hx
    cases hx
    exact ⟨i,by simp⟩
   ·rw [if_neg (by omega),if_pos (by omega)] at hx
    exact ih (i+1) ws t x (qbi ht) hx (by omega)
   ·rw [if_neg (by omega),if_pos (by omega)] at hx
    exact ih (i+1) ws t x (qbi ht) hx (by omega)
   ·((try conv=>arg 2;simp only [bn_some,leave_keep,leaves_pan,leaveM_mL,qa6]);refine qal ?_)
    rw [if_neg (by omega),if_neg (by omega),if_pos (by omega)] at hx
    cases hx
    exact ⟨ws,rfl⟩
   ·rw [if_neg (by omega),if_neg (by omega),if_neg (by omega)] at hx
    simp only [Option.map_eq_some_iff] at hx
    obtain ⟨y,hy,rfl⟩:=hx
    have:=ih (i+wlen (d::t)) (ws++[(⟨(d::t).take (wlen (d::t)),n,i+1⟩:Word)]) _ y (by rw [← List.drop_drop,ht]) hy (by simp;omega)
    refine Tot.mono this fun r hr=>?_
    cases y with
    | ok l=>obtain ⟨j,hj⟩:=hr;exact ⟨j,by rw [hj];simp⟩
    | error a=>exact hr
theorem s61 (s:Str) (hs:s.length≤100000000) (n:Int) (A:St) (k c:Nat) (hk:k<A.length) (hc:c<A.length) (hkc:k≠c) (x:Except Nat (List Word)) (hx:toks n (s.length+1) 0 s=some x) :
  Tot (readOut A k c n s [] x) (f61 (.ref k 0) (stR A k c n 0 s [])):=by
 unfold f61 n61;dsimp only
 exact s61_loop s hs n A _ k c hk hc hkc _ 0 [] s x rfl hx (by simp)
end Go.Vm.Rx
