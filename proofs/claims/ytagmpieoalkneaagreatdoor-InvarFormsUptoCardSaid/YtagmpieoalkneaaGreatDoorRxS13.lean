/- RxS10, RxS11, RxS12, VmSt2, RxS13 in one text. -/
import Derived.Test.YtagmpieoalkneaaGreatDoorRxS9
import Derived.Test.YtagmpieoalkneaaGreatDoorRxS1
set_option linter.all false
/- What the program's tests of expressions come to. -/
namespace Go.Vm.Rx
open Go Go.Proofs P
set_option maxRecDepth 10000
set_option maxHeartbeats 1100000
theorem rx_lay (r:Rx) (a b c:D):layCells true 3 0 [a,b,c] (encRx r)=some [.int .i64 r.op,.str r.nm,encL 3 (r.ks.map encRx)]:=by
 rw [encRx_eq]
 simp [layCells,D.cellsT,D.agg?,allCells,D.cell?,splice,encL]
def fewOut (left size:Int) (A:St) (x:Res×St):Prop:=∃ n:Int,x=(.ret (.int .i64 n),A)∧(size≤left→n=left - size)∧(¬ size≤left→n=-1)
theorem s81_loop (A:St) (r:Rx) (hr:r.Ok) (hk:∀ k,k ∈ r.ks→∀ m,0≤m→m≤1100000→∀ A,Tot (fewOut m k.size A) (f81 (encRx k) (.int .i64 m) A)) :
  ∀ (t:List Rx) (i:Nat) (n:Int) (L:St),r.ks.drop i=t→-1≤n→n≤1100000 →
  Tot (fewOut n (Rx.sizes t) A) (LP Tryz.prog rxA 81 [0,1,0,1,1] [A] (Env.mk (sp [(1,.int .i64 n),(8,encL 3 (r.ks.map encRx)),(0,.int .i64 (r.ks.length:Nat)),(0,.int .i64 (i:Nat))] 11) []) (A++L)):=by
 intro t
 have hl:=hr.len
 induction t with
 | nil =>
  intro i n L ht h1 h2
  have hl1:=qb1 ht
  refine qbh (q81_0 ..) ?_
  unfold n81_0;dsimp only
  (repeat' first|(with_reducible first|apply qai|apply qaa (b:=false)|apply qan)|((conv=>arg 2;arg 1;simp only [Option.map_some,qax,qa6,qa9,qa8]);(with_reducible first|apply qac|(apply qa2;omega))))
  ((try conv=>arg 2;simp (disch:=first|omega|assumption) only [qae,qao,qam,qad,qaj,qab,qah,List.take_left']);refine qal ?_)
  refine ⟨n,rfl, ?_, ?_⟩<;>(try simp only [Rx.sizes])<;>omega
 | cons k t ih =>
  intro i n L ht h1 h2
  have hl1:=qbz ht
  have hx:=qb6 (f:=encRx) ht 3 true .i64
  have hsz:Rx.sizes (k::t)=k.size+Rx.sizes t:=rfl
  have hsp:=Rx.size_pos k
  refine qbh (q81_0 ..) ?_
  unfold n81_0;dsimp only
  by_cases hn:0≤n
  ·have hkk:=hk k (drop_mem ht) n hn h2
   (repeat' first|(with_reducible first|apply qa3|apply qaa (b:=true)|apply qaa (b:=false)|apply qap|apply qan)|((conv=>arg 2;arg 1;simp (disch:=first|omega|assumption) only [qav,qbp,ofA3,List.length_append,qa6,qa9,qa8,qbc,qbs,ld_sh,qa7,ldc0,sto_sh,sto_sh0,stoc0,hx,rx_cell,rx_fold,rx_lay]);(with_reducible first|apply qac|(apply qas;omega)|(apply qa2;omega))))
   conv=>arg 2;arg 1;simp (disch:=first|omega|assumption) only [qa6,qa9,qaj,qb2,r81]
   refine tot_bn (hkk _) fun x hx=>?_
   obtain ⟨m,rfl,hg,hb⟩:=hx
   (repeat' first|(with_reducible first|apply qa1|apply tp_gk)|((conv=>arg 2;arg 1;simp (disch:=first|omega|assumption) only [qbe,qa5,qa6,qa9,qa8,Kept_app2]);(with_reducible first|apply qac|apply qbg)))
   have:=ih (i+1) m L (qbi ht) (by omega) (by omega)
   conv=>arg 2;simp (disch:=first|omega|assumption) only [qao,qbr,List.map_nil,List.length_append,qa6,qa9,qa8,take_app2,rxs_shut]
   refine Tot.mono this fun y hy=>?_
   obtain ⟨N,rfl,h5,h6⟩:=hy
   refine ⟨N,rfl, ?_, ?_⟩<;>rw [hsz]<;>omega
  ·(repeat' first|(with_reducible first|apply qa3|apply qai|apply qaa (b:=true)|apply qap)|((conv=>arg 2;arg 1;simp (disch:=first|omega|assumption) only [Option.map_some,qax,qav,qbp,ofA3,List.length_append,qa6,qa9,qa8,qbc,qbs,sto_sh,sto_sh0,stoc0,hx,rx_cell,rx_fold,rx_lay]);(with_reducible first|apply qac|(apply qas;omega))))
   ((try conv=>arg 2;simp (disch:=first|omega|assumption) only [qae,qao,qam,qad,qaj,qab,qah,List.take_left']);refine qal ?_)
   refine ⟨n,rfl, ?_, ?_⟩<;>rw [hsz] at *<;>omega
theorem s81:∀ (r:Rx) (hr:r.Ok) (left:Int) (h0:0≤left) (h1:left≤1100000) (A:St),Tot (fewOut left r.size A) (f81 (encRx r) (.int .i64 left) A):=by
 refine Rx.ind ?_
 intro r ih hr left h0 h1 A
 have hl:=hr.len
 unfold f81 n81;dsimp only
 (repeat' first|(with_reducible apply qa3)|((conv=>arg 2;arg 1;simp (disch:=first|omega|assumption) only [qb9,qa5,qaf,qa4,qb3,Nat.zero_add,qa0,qa7,ldc0,List.length_map,rx_box]);(with_reducible apply qac)))
 have:=s81_loop A r hr (fun k hk m h1 h2 A=>ih k hk (hr.kid hk) m h1 h2 A) r.ks 0 (left - 1) [.cells [.int .i64 r.op,.str r.nm,encL 3 (r.ks.map encRx)]] rfl (by omega) (by omega)
 conv=>arg 2;simp only []
 refine Tot.mono this fun y hy=>?_
 obtain ⟨N,rfl,h5,h6⟩:=hy
 have e1:=Rx.size_eq r
 exact ⟨N,rfl,by omega,by omega⟩
def measOut (most deep:Int) (size depth:Int) (A:St) (x:Res×St):Prop :=
 x=(.ret (if size≤most∧depth≤deep then .tup [.int .i64 size,.int .i64 depth,.bool true] else .tup [.int .i64 0,.int .i64 0,.bool false]),A)
theorem s82_loop (A:St) (r:Rx) (hr:r.Ok) (most deep:Int) (hm:1≤most) (hm2:most≤1100000) (hd1:1≤deep) (hd2:deep≤1100000)
  (hk:∀ k,k ∈ r.ks→∀ m,m≤1100000→-1100000≤m→∀ A,Tot (measOut m (deep - 1) k.size k.depth A) (f82 (encRx k) (.int .i64 m) (.int .i64 (deep - 1)) A)) :
  ∀ (t:List Rx) (i:Nat) (n d:Int) (L:St),r.ks.drop i=t→0≤n→n≤most→0≤d→d≤deep - 1 →
  Tot (measOut most deep (n+(Rx.sizes t:Int)) (max d (Rx.depths t:Int)+1) A) (LP Tryz.prog rxA 82 [0,1,0,1,1,1] [A] (Env.mk (sp [(1,.int .i64 most),(0,.int .i64 deep),(6,.int .i64 n),(0,.int .i64 d),(12,encL 3 (r.ks.map encRx)),(0,.int .i64 (r.ks.length:Nat)),(0,.int .i64 (i:Nat))] 26) []) (A++L)):=by
 intro t
 have hl:=hr.len
 induction t with
 | nil =>
  intro i n d L ht h1 h2 h3 h4
  have hl1:=qb1 ht
  refine qbh (q82_0 ..) ?_
  unfold n82_0;dsimp only
  (repeat' first|(with_reducible first|apply qai|apply qaa (b:=false)|apply qan)|((conv=>arg 2;arg 1;simp (disch:=first|omega|assumption) only [Option.map_some,qbe,qa5,qax,qa6,qa9,qa8]);(with_reducible first|apply qac|(apply qa2;omega))))
  ((try conv=>arg 2;simp (disch:=first|omega|assumption) only [qae,qao,qaw,shut_tup,qby,qbv,qam,qad,qaj,qau,qb7,qbu,qbm,qab,qah,List.take_left']);refine qal ?_)
  unfold measOut
  have e1:max d ((Rx.depths ([]:List Rx):Nat):Int)=d:=by simp only [Rx.depths];omega
  have e2:n+((Rx.sizes ([]:List Rx):Nat):Int)=n:=by simp only [Rx.sizes];omega
  rw [e1,e2,if_pos (by omega)]
 | cons k t ih =>
  intro i n d L ht h1 h2 h3 h4
  have hl1:=qbz ht
  have hx:=qb6 (f:=encRx) ht 3 true .i64
  have hsz:Rx.sizes (k::t)=k.size+Rx.sizes t:=rfl
  have hdp:Rx.depths (k::t)=max k.depth (Rx.depths t):=rfl
  have hsp:=Rx.size_pos k
  refine qbh (q82_0 ..) ?_
  unfold n82_0;dsimp only
  have hkk:=hk k (drop_mem ht) (most - n) (by omega) (by omega)
  (repeat' first|(with_reducible first|apply qa3|apply qaa (b:=true)|apply qap)|((conv=>arg 2;arg 1;simp (disch:=first|omega|assumption) only [qb9,qa5,qav,qbp,ofA3,List.length_append,qa6,qa9,qa8,qbc,qbs,ld_sh,qa7,ldc0,sto_sh,sto_sh0,stoc0,hx,rx_cell,rx_fold,rx_lay]);(with_reducible first|apply qac|(apply qas;omega))))
  conv=>arg 2;arg 1;simp (disch:=first|omega|assumption) only [qaj,qb2,r82]
  refine tot_bn (hkk _) fun x hx=>?_
  unfold measOut at hx
  by_cases hc:(k.size:Int)≤most - n∧(k.depth:Int)≤deep - 1
  ·rw [if_pos hc] at hx
   subst hx
   have:=ih (i+1) (n+k.size) (max d k.depth) L (qbi ht) (by omega) (by omega) (by omega) (by omega)
   (repeat' first|(with_reducible first|apply qa1|apply tp_gk|apply qaa (b:=false)|apply qan)|((conv=>arg 2;arg 1;simp (disch:=first|omega|assumption) only [qbe,qa5,qb5,Bool.not_true,qa6,qa9,qa8,ext0,extS,Kept_app2,minmax_t]);(with_reducible first|apply qac|apply qbg)))
   conv=>arg 2;simp (disch:=first|omega|assumption) only [qao,qbr,List.map_nil,List.length_append,qa6,qa9,qa8,take_app2,rxs_shut]
   refine Tot.mono this fun y hy=>?_
   unfold measOut at hy ⊢
   rw [hy,hsz,hdp]
   have e1:n+((k.size+Rx.sizes t:Nat):Int)=n+k.size+(Rx.sizes t:Int):=by omega
   have e2:max d ((max k.depth (Rx.depths t):Nat):Int)=max (max d (k.depth:Int)) (Rx.depths t:Int):=by omega
   rw [e1,e2]
  ·rw [if_neg hc] at hx
   subst hx
   (repeat' first|(with_reducible first|apply qa1|apply qai|apply qaa (b:=true)|apply qap)|((conv=>arg 2;arg 1;simp only [Option.map_some,qax,qb5,Bool.not_false,ext0,extS]);(with_reducible apply qac)))
   ((try conv=>arg 2;simp (disch:=first|omega|assumption) only [qae,qao,qaw,shut_tup,qby,qbv,qam,qad,qaj,qau,qb7,qbu,qbm,qab,qah,List.take_left']);refine qal ?_)
   unfold measOut
   rw [if_neg (by rw [hsz,hdp];omega)]
theorem s82:∀ (r:Rx) (hr:r.Ok) (deep most:Int) (hd:deep≤1100000) (hd0:-1100000≤deep) (hm0:-1100000≤most) (hm:most≤1100000) (A:St),Tot (measOut most deep r.size r.depth A) (f82 (encRx r) (.int .i64 most) (.int .i64 deep) A):=by
 refine Rx.ind ?_
 intro r ih hr deep most hd hd0 hm0 hm A
 have hp:=Rx.depth_pos r
 have hp2:=Rx.size_pos r
 have hl:=hr.len
 unfold f82 n82;dsimp only
 (repeat' first|(with_reducible first|apply qac|apply qa3|apply qaz|apply qai|apply qag (b:=true)|apply qag (b:=false)|apply qaa (b:=true)|apply qaa (b:=false)|apply qap|apply qan|apply qbq|apply qba|(apply tot_lss;all_goals intro hsp))|((conv=>arg 2;arg 1;simp (disch:=first|omega|assumption) only [qaq,qak,qaf,qa4,qb3,Nat.zero_add,qa0,qa7,ldc0,List.length_map,rx_box]);(with_reducible first|apply qac|apply qaa (b:=true)|apply qaa (b:=false))))
 ·((try conv=>arg 2;simp (disch:=first|omega|assumption) only [qae,qao,qaw,shut_tup,qby,qbv,qam,qad,qaj,qau,qb7,qbu,qbm,qab,qah,List.take_left']);refine qal ?_)
  unfold measOut
  rw [if_neg (by omega)]
 ·((try conv=>arg 2;simp (disch:=first|omega|assumption) only [qae,qao,qaw,shut_tup,qby,qbv,qam,qad,qaj,qau,qb7,qbu,qbm,qab,qah,List.take_left']);refine qal ?_)
  unfold measOut
  rw [if_neg (by omega)]
 ·have:=s82_loop A r hr most deep (by omega) hm (by omega) hd (fun k hk m h1 h2 A=>ih k hk (hr.kid hk) (deep - 1) m (by omega) (by omega) h2 h1 A) r.ks 0 1 0 [.cells [.int .i64 r.op,.str r.nm,encL 3 (r.ks.map encRx)]] rfl (by omega) (by omega) (by omega) (by omega)
  conv=>arg 2;simp only []
  refine Tot.mono this fun y hy=>?_
  unfold measOut at hy ⊢
  rw [hy,Rx.size_eq,Rx.depth_eq]
  have e1:((Rx.sizes r.ks+1:Nat):Int)=1+(Rx.sizes r.ks:Int):=by omega
  have e2:((Rx.depths r.ks+1:Nat):Int)=max 0 (Rx.depths r.ks:Int)+1:=by omega
  rw [e1,e2]
end Go.Vm.Rx

/- Which expressions may be: both texts' answers. -/
namespace Go.Vm.Rx
open Go Go.Proofs P
set_option maxRecDepth 10000
set_option maxHeartbeats 2000000
def badKid (op:Int) (k:Rx):Bool:=(decide (op=4) || decide (op=5)) && decide (k.op=op) || !k.right
theorem s121 (r k:Rx) (j:Nat) (B:St) (hj:j<B.length) (hB:B[j]?=some (.cells [.int .i64 r.op,.str r.nm,encL 3 (r.ks.map encRx)]))
  (hk:∀ A,f83 (encRx k) A=some (.ret (.bool k.right),A)):f121 (encRx k) (.ref j 0) B=some (.ret (.bool (badKid r.op k)),B):=by
 have hld:∀ L,loadO false 1 (.ref j 0) (B++L)=some (.int .i64 r.op):=fun L=>by
  rw [ld_old hj,load_ref hB];rfl
 unfold f121 n121;dsimp only
 refine qbb ?_
 (repeat' first|(with_reducible first|apply qac|apply qa3|apply qaz|apply qa1|apply qai|apply qag (b:=true)|apply qag (b:=false)|apply qaa (b:=true)|apply qaa (b:=false)|apply qbd|apply qbj|apply qbq|apply qba|(apply tot_eql;all_goals intro hsp))|((conv=>arg 2;arg 1;simp (disch:=first|omega|assumption) only [qaq,qak,qaf,qa4,Nat.add_zero,ofA3,qb5,qa7,ldc0,rx_box,hld,rx_fold,qb2,r83,hk]);(with_reducible first|apply qac|apply qag (b:=true)|apply qag (b:=false)|apply qaa (b:=true)|apply qaa (b:=false))))
 all_goals (((try conv=>arg 2;simp (disch:=first|omega|assumption) only [qaq,qak,qae,qaw,qam,qad,qau,qab,qah,List.take_left']);refine qal ?_);unfold badKid;by_cases h1:r.op=4<;>by_cases h2:r.op=5<;>by_cases h3:k.op=r.op<;>first|(exfalso;omega)|simp_all)
theorem s153_loop (r:Rx) (hr:r.Ok) (j:Nat) (B:St) (hj:j<B.length) (hB:B[j]?=some (.cells [.int .i64 r.op,.str r.nm,encL 3 (r.ks.map encRx)]))
  (hk:∀ k,k ∈ r.ks→∀ A,f83 (encRx k) A=some (.ret (.bool k.right),A)):∀ (t:List Rx) (i:Nat),r.ks.drop i=t →
  LP Tryz.prog rxA 153 [0,1,0,1] [B] (Env.mk (sp [(0,encL 3 (r.ks.map encRx)),(0,.fn (.func 121) [] [.ref j 0]),(5,.int .i64 (r.ks.length:Nat)),(0,.int .i64 (i:Nat))] 10) []) B =
   some (.ret (.int .i64 (match t.findIdx? (badKid r.op) with|some q=>((i+q:Nat):Int)|none=>-1)),B):=by
 intro t
 have hl:=hr.len
 have hshf:(D.fn (.func 121) [] [.ref j 0]).shut B.length=.fn (.func 121) [] [.ref j 0]:=by
  simp only [D.shut,D.shutL,hj,if_true]
 induction t with
 | nil =>
  intro i ht
  have h1:=qb1 ht
  refine qbb (qbh (q153_0 ..) ?_)
  unfold n153_0;dsimp only
  (repeat' first|(with_reducible first|apply qai|apply qaa (b:=false)|apply qan)|((conv=>arg 2;arg 1;simp only [Option.map_some,qax,qa6,qa9,qa8]);(with_reducible first|apply qac|(apply qa2;omega))))
  ((try conv=>arg 2;simp only [qae,qao,qar,qad,List.take_length,qaj,qab,qah]);refine qal ?_)
  rfl
 | cons k t ih =>
  intro i ht
  have h1:=qbz ht
  have hx:=qb6 (f:=encRx) ht 3 true .i64
  have hkk:=s121 r k j B hj hB (hk k (drop_mem ht))
  have hcl:applyD (Run Tryz.prog rxA) (.fn (.func 121) [] [.ref j 0]) [encRx k] B=some (.ret (.bool (badKid r.op k)),B):=by
   rw [app_fn]
   show Run Tryz.prog rxA 121 [encRx k,.ref j 0] B=_
   rw [r121,qb2]
   exact hkk
  refine qbb (qbh (q153_0 ..) ?_)
  unfold n153_0;dsimp only
  (repeat' first|(with_reducible first|apply qa3|apply qa1|apply tp_gk|apply qai|apply qaa (b:=true)|apply qap|apply qan|(apply tot_bq;all_goals intro hsp))|((conv=>arg 2;arg 1;simp (disch:=first|omega|assumption) only [Option.map_some,qbe,qa5,qar,qax,qav,ofA3,qa6,qa9,qa8,qbc,hx,rx_cell,rx_fold,hcl]);(with_reducible first|apply qac|apply qbg|(apply qas;omega))))
  ·((try conv=>arg 2;simp only [qae,qao,qar,qad,List.take_length,qaj,qab,qah]);refine qal ?_)
   simp only [List.findIdx?_cons, *,if_true]
   simp
  ·have:=ih (i+1) (qbi ht)
   conv=>arg 2;simp (disch:=first|omega|assumption) only [qao,qbr,List.take_length,List.map_nil,qa6,qa9,qa8,rxs_shut,hshf]
   refine qay ?_
   simp only [List.findIdx?_cons, *,if_false,Bool.false_eq_true]
   cases hf:t.findIdx? (badKid r.op) with
   | none=>rw [hf] at this;exact this
   | some q =>
    rw [hf] at this
    have e:((i+1+q:Nat):Int)=((i+(q+1):Nat):Int):=by omega
    simp only [Option.map_some]
    rw [← e];exact this
theorem s120 (r:Rx) (hr:r.Ok) (j:Nat) (B:St) (hj:j<B.length) (hB:B[j]?=some (.cells [.int .i64 r.op,.str r.nm,encL 3 (r.ks.map encRx)]))
  (hk:∀ k,k ∈ r.ks→∀ A,f83 (encRx k) A=some (.ret (.bool k.right),A)) :
  f120 (encL 3 (r.ks.map encRx)) (.fn (.func 121) [] [.ref j 0]) B=some (.ret (.bool (r.ks.any (badKid r.op))),B):=by
 have hcf:(D.fn (.func 121) [] [.ref j 0]).canon=.fn (.func 121) [] [.ref j 0]:=rfl
 have hi:f153 (encL 3 (r.ks.map encRx)) (.fn (.func 121) [] [.ref j 0]) B=some (.ret (.int .i64 (match r.ks.findIdx? (badKid r.op) with|some q=>((0+q:Nat):Int)|none=>-1)),B):=by
  have:=s153_loop r hr j B hj hB hk r.ks 0 rfl
  unfold f153 n153;dsimp only
  refine qbb ?_
  (repeat' first|((conv=>arg 2;arg 1;simp only [qa0,List.length_map]);(with_reducible apply qac)))
  (refine qay ?_;(conv=>lhs;simp only []);exact this)
 have hany:r.ks.any (badKid r.op)=(r.ks.findIdx? (badKid r.op)).isSome:=by rw [List.findIdx?_isSome]
 unfold f120 n120;dsimp only
 rw [hany]
 refine qbb ?_
 cases hf:r.ks.findIdx? (badKid r.op) with
 | none =>
  rw [hf] at hi
  simp only at hi
  (repeat' first|(with_reducible first|apply qa1|apply qai|(apply qb8;omega))|((conv=>arg 2;arg 1;simp (disch:=first|omega|assumption) only [rxs_canon,hcf,r153,hi]);(with_reducible apply qac)))
  ((try conv=>arg 2;simp only [qae,qaw,qar,qad,List.take_length,qau,qab,qah]);refine qal ?_)
  rfl
 | some q =>
  rw [hf] at hi
  simp only at hi
  (repeat' first|(with_reducible first|apply qa1|apply qai|(apply tot_geq_t;omega))|((conv=>arg 2;arg 1;simp (disch:=first|omega|assumption) only [Nat.zero_add,rxs_canon,hcf,r153,hi]);(with_reducible apply qac)))
  ((try conv=>arg 2;simp only [qae,qaw,qar,qad,List.take_length,qau,qab,qah]);refine qal ?_)
  rfl
theorem rights_any (op:Int):∀ (ks:List Rx),ks.any (badKid op)=!(Rx.rights ks && !((decide (op=4) || decide (op=5)) && hasOp op ks))
 | []=>by simp [Rx.rights,hasOp]
 | k::ks=>by
  have:=rights_any op ks
  simp only [List.any_cons,this,Rx.rights,hasOp,badKid]
  have e:(k.op == op)=decide (k.op=op):=by rw [Bool.eq_iff_iff];simp
  rw [e]
  generalize (decide (op=4) || decide (op=5))=a
  generalize decide (k.op=op)=b
  generalize k.right=c
  generalize Rx.rights ks=d
  generalize (ks.any fun k=>k.op == op)=f
  cases a<;>cases b<;>cases c<;>cases d<;>cases f<;>rfl
theorem s83:∀ (r:Rx) (hr:r.Ok) (A:St),f83 (encRx r) A=some (.ret (.bool r.right),A):=by
 refine Rx.ind ?_
 intro r ih hr A
 have hl:=hr.len
 have hn:=hr.nml
 have hcf:(D.fn (.func 121) [] [.ref A.length 0]).canon=.fn (.func 121) [] [.ref A.length 0]:=rfl
 have hct:=s120 r hr A.length (A++[.cells [.int .i64 r.op,.str r.nm,encL 3 (r.ks.map encRx)]]) (by simp) (by simp) (fun k hk A=>ih k hk (hr.kid hk) A)
 unfold f83 n83;dsimp only
 refine qbb ?_
 (repeat' first|(with_reducible first|apply qac|apply qa3|apply qaz|apply qa1|apply qai|apply qag (b:=true)|apply qag (b:=false)|apply tot_gbn|apply qaa (b:=true)|apply qaa (b:=false)|apply qap|apply qan|apply qbd|apply qbj|apply qbq|apply qba|apply tot_if_n|(apply tot_gtr;all_goals intro hsp)|(apply tot_eql;all_goals intro hsp)|(apply tot_neq;all_goals intro hsp)|(apply tot_sneq;all_goals intro hsp)|(apply tot_gb_t;assumption)|(apply tot_gb_f;assumption)|(apply tot_bq_t;assumption)|(apply tot_bq_f;assumption)|(apply tot_gb;all_goals intro hsp))|((conv=>arg 2;arg 1;simp (disch:=first|omega|assumption) only [qaq,qak,qaf,qa4,qb3,Nat.zero_add,Nat.add_zero,qb5,Bool.not_true,Bool.not_false,qat,qa0,qa7,ldc0,List.length_map,neq_tt,neq_tf,neq_ft,neq_ff,rx_box,r34,s34,rxs_canon,hcf,r120,hct]);(with_reducible first|apply qac|apply qag (b:=true)|apply qag (b:=false)|apply qaa (b:=true)|apply qaa (b:=false)|apply tot_gb_n|apply tot_bq_n)))
 all_goals (((try conv=>arg 2;simp (disch:=first|omega|assumption) only [qae,qaw,qam,qad,qau,qab,qah,List.take_left',rights_any]);refine qal ?_);rw [Rx.right_eq,nodeOk_int])
 all_goals (simp (disch:=first|omega|assumption) only [iT,iF,dT,dF, *,Bool.and_true,Bool.true_and,Bool.and_false,Bool.false_and,Bool.or_true,Bool.true_or,Bool.or_false,Bool.false_or,Bool.not_true,Bool.not_false,Bool.not_not])
 all_goals first
  | done
  | rfl
  | (cases Rx.rights r.ks<;>cases hasOp 4 r.ks<;>rfl)
  | (cases Rx.rights r.ks<;>cases hasOp 5 r.ks<;>rfl)
  | (simp;done)
end Go.Vm.Rx

/- Check and Size: both texts' answers. -/
namespace Go.Vm.Rx
open Go Go.Proofs P
set_option maxRecDepth 10000
set_option maxHeartbeats 2000000
theorem s51 (r:Rx) (hr:r.Ok) (A:St):f51 (encRx r) A=some (.ret (.int .i64 r.check),A):=by
 have h1:=fun A=>s94 r hr 100001 1000 (by omega) (by omega) (by omega) (by omega) A
 have h2:=fun A=>s95 r hr 100 (by omega) (by omega) A
 have h3:=fun A=>s96 r hr A
 have hdl:=Rx.depth_le r
 unfold f51 n51;dsimp only
 refine qbb ?_
 (repeat' first|(with_reducible apply qa3)|((conv=>arg 2;arg 1;simp (disch:=first|omega|assumption) only [ofA3,qa7,ldc0,rx_box,rx_fold]);(with_reducible apply qac)))
 conv=>arg 2;arg 1;simp (disch:=first|omega|assumption) only [qaj,qb2,r94]
 refine tot_bn (h1 _) fun x hx=>?_
 obtain ⟨n,d,rfl,hg,hb,_⟩:=hx
 (repeat' first|(with_reducible first|apply qa3|apply qa1|apply qai|apply qaa (b:=true)|apply qaa (b:=false)|apply qap|apply qan|apply tot_if_n|apply tot_bq_n|(apply tot_gtr;all_goals intro hsp)|(apply tot_bq_d;all_goals intro hsp)|(apply tot_bq;all_goals intro hsp))|((conv=>arg 2;arg 1;simp (disch:=first|omega|assumption) only [ofA3,qb5,qaj,qa7,ldc0,ext0,extS,rx_fold,qb2,r95,r96,h2,h3]);(with_reducible apply qac)))
 all_goals (((try conv=>arg 2;simp (disch:=first|omega|assumption) only [qae,qao,qam,qad,qaj,qab,qah,List.take_left']);refine qal ?_);unfold Rx.check)
 all_goals simp (disch:=first|omega|assumption) only [iT,iF, *,if_true,if_false,Bool.false_eq_true]
theorem s37 (r:Rx) (hr:r.Ok) (A:St):f37 (encRx r) A=some (.ret (.int .i64 r.check),A):=by
 have h1:=fun A=>s81 r hr 1000 (by omega) (by omega) A
 have h2:=fun A=>s82 r hr 100 1000 (by omega) (by omega) (by omega) (by omega) A
 have h3:=fun A=>s83 r hr A
 have hdl:=Rx.depth_le r
 unfold f37 n37;dsimp only
 refine qbb ?_
 (repeat' first|(with_reducible apply qa3)|((conv=>arg 2;arg 1;simp (disch:=first|omega|assumption) only [ofA3,qa7,ldc0,rx_box,rx_fold]);(with_reducible apply qac)))
 conv=>arg 2;arg 1;simp (disch:=first|omega|assumption) only [qaj,qb2,r81]
 refine tot_bn (h1 _) fun x hx=>?_
 obtain ⟨n,rfl,hg,hb⟩:=hx
 (repeat' first|(with_reducible first|apply qa3|apply qa1|apply qai|apply qaa (b:=true)|apply qaa (b:=false)|apply qap|apply qan|(apply tot_lss;all_goals intro hsp))|((conv=>arg 2;arg 1;simp (disch:=first|omega|assumption) only [ofA3,qa7,ldc0,rx_fold]);(with_reducible apply qac)))
 ·((try conv=>arg 2;simp (disch:=first|omega|assumption) only [qae,qao,qam,qad,qaj,qab,qah,List.take_left']);refine qal ?_)
  unfold Rx.check
  rw [if_pos (by omega)]
 ·conv=>arg 2;arg 1;simp (disch:=first|omega|assumption) only [qaj,qb2,r82]
  refine tot_bn (h2 _) fun x hx=>?_
  unfold measOut at hx
  by_cases hc:(r.size:Int)≤1000∧(r.depth:Int)≤100
  ·rw [if_pos hc] at hx
   subst hx
   (repeat' first|(with_reducible first|apply qa3|apply qa1|apply qai|apply qaa (b:=false)|apply qap|apply qan|apply tot_if_n|apply tot_bq_n|(apply tot_bq;all_goals intro hsp))|((conv=>arg 2;arg 1;simp (disch:=first|omega|assumption) only [ofA3,qb5,Bool.not_true,qa7,ldc0,ext0,extS,rx_fold,qb2,r83,h3]);(with_reducible apply qac)))
   all_goals (((try conv=>arg 2;simp (disch:=first|omega|assumption) only [qae,qao,qam,qad,qaj,qab,qah,List.take_left']);refine qal ?_);unfold Rx.check)
   all_goals simp (disch:=first|omega|assumption) only [iT,iF, *,if_true,if_false,Bool.false_eq_true]
  ·rw [if_neg hc] at hx
   subst hx
   (repeat' first|(with_reducible first|apply qa1|apply qai|apply qaa (b:=true)|apply qap)|((conv=>arg 2;arg 1;simp only [qb5,Bool.not_false,ext0,extS]);(with_reducible apply qac)))
   all_goals (((try conv=>arg 2;simp (disch:=first|omega|assumption) only [qae,qao,qam,qad,qaj,qab,qah,List.take_left']);refine qal ?_);unfold Rx.check)
   all_goals simp (disch:=first|omega|assumption) only [iT,iF, *,if_true,if_false,Bool.false_eq_true]
end Go.Vm.Rx

/- Growing rows and written slots together. -/
namespace Go.Vm
open Go.RowKit
section
variable {b:Option Nat} {g:Bool} {n w off k j:Nat} {A L:St} {ds cs cs':List D} {s0 s1 s2:Slot} {d:D}
theorem accL_Kept:Kept A (accA b (A++L) ds)↔True:=by
 cases b
 ·simp only [accA];rw [List.append_assoc];exact qam _ _
 ·exact qam _ _
theorem accL_take:(accA b (A++L) ds).take A.length=A:=by
 cases b
 ·simp only [accA];rw [List.append_assoc];exact List.take_left ..
 ·exact List.take_left ..
end
theorem idx_lit1 {n:Nat} {d:D} {g:Bool} {k:IntKind} (o:Own):indexAddrO n g (.sl o n [d]) (.int k 0)=mp (d.cellsT g) .peek:=by
 simp [indexAddrO,D.int?,esOk,mp]
end Go.Vm

/- The reference's reader of words: its small functions. -/
namespace Go.Vm.Rx
open Go Go.Proofs P
set_option maxRecDepth 10000
set_option maxHeartbeats 2000000
def rdC (l:List Word) (i o b a:Int):List D:=[encL 3 (l.map encW),.int .i64 i,.int .i64 o,.int .i64 b,.int .i64 a]
theorem ws_shut (l:List Word) (n m:Nat):(encL n (l.map encW)).shut m=encL n (l.map encW):=(encL_plain (plainWs l) n).shut m
end Go.Vm.Rx
