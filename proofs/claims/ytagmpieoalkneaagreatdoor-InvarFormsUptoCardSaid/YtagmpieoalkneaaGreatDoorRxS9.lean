/- RxS8, RxS9 in one text. -/
import Derived.Test.YtagmpieoalkneaaGreatDoorRxS7
set_option linter.all false
/- What the program's reader of texts comes to. -/
namespace Go.Vm.Rx
open Go Go.Proofs P
set_option maxRecDepth 10000
set_option maxHeartbeats 1100000
theorem s106 (s p:Str) (B:St):f106 (.str s) (.str p) (.int .i64 0) B =
  some (.ret (.fn (.func 135) [] [.ref (B.length+1) 0,.ref B.length 0,.ref (B.length+2) 0]),B++[.cells [.str s],.cells [.str p],.cells [.int .i64 0]]):=by
 unfold f106 n106;dsimp only
 refine qbb ?_
 have hb:∀ s (B:St),boxO false (.str s) B=some (.ref B.length 0,B++[.cells [.str s]]):=fun _ _=>rfl
 have hb2:∀ (B:St),boxO false (.int .i64 0) B=some (.ref B.length 0,B++[.cells [.int .i64 0]]):=fun _=>rfl
 (repeat' first|(with_reducible apply qai)|((conv=>arg 2;arg 1;simp (disch:=first|omega|assumption) only [Nat.zero_add,List.length_append,List.length_cons,List.length_nil,qbs,qbl,qbf,Nat.reduceAdd,hb,hb2]);(with_reducible apply qac)))
 ((try conv=>arg 2;simp only [leave_keep]);refine qal ?_)
 simp
theorem s60 (s p:Str) (B:St):f60 (.str s) (.str p) B =
  some (.ret (.fn (.func 135) [] [.ref (B.length+1) 0,.ref B.length 0,.ref (B.length+2) 0]),B++[.cells [.str s],.cells [.str p],.cells [.int .i64 0]]):=by
 unfold f60 n60;dsimp only
 refine qbb ?_
 (repeat' first|(with_reducible first|apply qa1|apply qai)|((conv=>arg 2;arg 1;simp (disch:=first|omega|assumption) only [qaj,qat,r106,s106]);(with_reducible apply qac)))
 ((try conv=>arg 2;simp only [leave_keep]);refine qal ?_)
 rfl
theorem seq87 (cap:List D) (k:Nat) (B:St):seqCall Tryz.prog (Run Tryz.prog rxA) (.fn (.func 135) [] cap) k B=Run Tryz.prog rxA 135 (.yld false k::cap) B:=by
 unfold seqCall
 have h:(Tryz.prog.funcs[135]?).any fnOk=true:=by kernel_rfl
 simp only [h]
 rfl
theorem s135 (A:St) (s:Str) (hs:s.length≤100000000) (x:Except (Int×Int) (List (List Word))) (hx:rowsOf 1 ((splitNL s).1::(splitNL s).2)=some x) :
  Tot (walkOut A [] x) (f135 (.yld false (A.length+11)) (.ref (A.length+8) 0) (.ref (A.length+7) 0) (.ref (A.length+9) 0) (T A 0 [] s .ready)):=by
 have hlo:=s135_loop (s0:=s) round_ok A (s.length+1) s 0 [] x (by omega) (by simp;omega) (by omega) (by omega) hx
 have hlen1:lenStrO (.str [10])=some (.int .i64 1):=rfl
 unfold f135 n135;dsimp only
 (repeat' first|(with_reducible first|apply qa3|apply qaa (b:=false)|apply qan|(apply qbw;omega))|((conv=>arg 2;arg 1;simp (disch:=first|omega|assumption) only [T_ld8,hlen1]);(with_reducible apply qac)))
 exact hlo
theorem Kept4 {A L M:St} {s0 s1 s2 s3 t0 t1 t2 t3:Slot} (h0:∀ n,t0.shut n=t0) (h1:∀ n,t1.shut n=t1) (h2:∀ n,t2.shut n=t2) (h3:∀ n,t3.shut n=t3) :
  Kept (A++(s0::s1::s2::s3::L)) (A++(t0::t1::t2::t3::(L++M)))↔True:=by
 refine iff_true_intro (Kept_tail (by simp) fun i hi=>?_)
 match i,hi with
 | 0,_=>exact .inr ⟨_,rfl,h0 _⟩
 | 1,_=>exact .inr ⟨_,rfl,h1 _⟩
 | 2,_=>exact .inr ⟨_,rfl,h2 _⟩
 | 3,_=>exact .inr ⟨_,rfl,h3 _⟩
 | i+4,hi =>
  left
  simp only [List.length_cons] at hi
  simp only [List.getElem?_cons_succ]
  rw [List.getElem?_append_left (by omega)]
theorem take4 {A L M:St} {s0 s1 s2 s3 t0 t1 t2 t3:Slot}:(A++(t0::t1::t2::t3::(L++M))).take (A++(s0::s1::s2::s3::L)).length=A++(t0::t1::t2::t3::L):=by
 have e:A++(t0::t1::t2::t3::(L++M))=(A++(t0::t1::t2::t3::L))++M:=by simp
 rw [e,List.take_append_of_le_length (by simp),List.take_of_length_le (by simp)]
theorem take4' {A L M:St} {t0 t1 t2 t3:Slot}:(A++(t0::t1::t2::t3::(L++M))).take (A.length+(L.length+1+1+1+1))=A++(t0::t1::t2::t3::L):=by
 have:=take4 (A:=A) (L:=L) (M:=M) (s0:=.dead) (s1:=.dead) (s2:=.dead) (s3:=.dead) (t0:=t0) (t1:=t1) (t2:=t2) (t3:=t3)
 simpa [List.length_append,Nat.add_assoc] using this
theorem ifc_nil (t:TypeId) (d:D):binO .eql 1 true (.iface t d) (.val .nilIface)=some (.bool false):=rfl
theorem dc59p (A L:St) (o0 o1 o2 o3:D) (x y:Int):Dcall Tryz.prog rxA (.fn (.func 59) [] [.ref A.length 0,.ref (A.length+1) 0,.ref (A.length+2) 0,.ref (A.length+3) 0]) [] (some (.iface 101 (.agg [.int .i64 x,.int .i64 y])))
   (A++(.cells [o0]::.cells [o1]::.cells [o2]::.cells [o3]::L)) =
  some (none,A++(.cells [.sl .full 0 []]::.cells [.int .i64 x]::.cells [.int .i64 y]::.cells [.int .i64 30]::L)):=by
 rw [rd59p]
 unfold d59p nd59p;dsimp only
 have has:∀ z d,assertV z (.iface 101 d) 101 true=some (.tup [d,.bool true]):=fun _ _=>rfl
 have hk:=fun M=>Kept4 (A:=A) (L:=L) (M:=M) (s0:=.cells [o0]) (s1:=.cells [o1]) (s2:=.cells [o2]) (s3:=.cells [o3]) (t0:=.cells [.sl .full 0 []]) (t1:=.cells [.int .i64 x]) (t2:=.cells [.int .i64 y]) (t3:=.cells [.int .i64 30]) (fun n=>by simp) (fun n=>by simp) (fun n=>by simp) (fun n=>by simp)
 refine qbb ?_
 (repeat' first|(with_reducible first|apply qa3|apply tp_gs0|apply tp_gs1|apply tp_gk|apply qaa (b:=false)|apply qan)|((conv=>arg 2;arg 1;simp (disch:=first|omega|assumption) only [qaf,qa4,qb3,Nat.zero_add,Nat.add_zero,qbp,lay_int,lay_sl,List.length_append,List.length_cons,qb5,Bool.not_true,qbc,qbs,qbf,ld_sh,qa7,ldc0,ldcS,sto_sh,sto_sh0,stoc0,stocS,ext0,extS,lay_ii,sameAd_ref,get_sh,List.getElem?_cons_succ,ifc_nil,has,hk]);(with_reducible first|apply qac|apply qbg)))
 conv=>arg 2;simp (disch:=first|omega|assumption) only [List.length_append,List.length_cons,take4']
 exact qal rfl
theorem dc59n (a b c d:D) (S:St):Dcall Tryz.prog rxA (.fn (.func 59) [] [a,b,c,d]) [] none S=some (none,S):=by
 rw [rd59n]
 unfold d59n nd59n;dsimp only
 have hn:negIf false true=.bool true:=rfl
 refine qbb ?_
 skip
 ((try conv=>arg 2;simp only [bn_some,qae,qar,qaf,List.take_length,Nat.zero_add,Nat.add_zero,qbp,mL_gk,sto_sh0,stoc0]);refine qal ?_)
 rfl
theorem tok_rows (A:St) (c0 c1 c2 c3 c4:Slot):tokO [(0,1)] (.ref (A.length+5) 0) (A++[c0,c1,c2,c3,c4,.cells [.sl .full 0 []]]) =
  some (.ref (A.length+5) 0,A++[c0,c1,c2,c3,c4,.cells [.sl (.own (A.length+6) 0) 1 []],.tok 0]):=by
 unfold tokO tokD
 simp only [get_sh]
 simp [tokCells,tokCell,show Nat.ble 1000000 1=false from rfl,show Nat.ble 1000000 3=false from rfl]
theorem s23 (s:Str) (hs:s.length≤1048576) (x:Except (Int×Int) (List (List Word))) (hx:rowsOf 1 ((splitNL s).1::(splitNL s).2)=some x) (A:St):f23 (.str s) A=some (.ret (linesRes [] x),A):=by
 have hwalk:=s135 A s (by omega) x hx
 have hstart:A++[Slot.cells [D.sl Own.full 0 []],Slot.cells [D.int .i64 0],Slot.cells [D.int .i64 0],Slot.cells [D.int .i64 0],Slot.cells [D.int .i64 0],Slot.cells [D.sl (.own (A.length+6) 0) 1 []],Slot.tok 0] ++
   [Slot.cells [D.str s],Slot.cells [D.str [10]],Slot.cells [D.int .i64 0]] ++
   [Slot.dfb,Slot.loop 23 [D.any,D.any,D.any,D.any,D.any,D.any,D.ref (A.length+4) 0,D.ref (A.length+5) 0,D.any,D.any,D.any,D.any,D.any,D.any,D.any,D.any,D.any,D.any,
    D.any,D.any,D.any,D.any,D.any,D.any,D.any,D.any,D.any,D.any,D.any,D.any,D.any,D.any,D.any,D.any,D.any,D.any,D.any,D.any,D.any,D.any] (cAt Tryz.prog 23 [0,1,0,1,1,1,1,1]) RSt.ready]=T A 0 [] s .ready:=by
  rw [List.append_assoc,List.append_assoc]
  rfl
 have hyc:∀ k,(D.yld false k).canon=.yld false k:=fun _=>rfl
 unfold f23 n23;dsimp only
 try dsimp only []
 refine qbb ?_
 (repeat' first|(with_reducible first|apply qa3|apply qa1|apply qaa (b:=false)|apply qan|(apply qbo;omega))|((conv=>arg 2;arg 1;simp (disch:=first|omega|assumption) only [qb0,Nat.zero_add,qbp,lay_int,List.length_append,List.length_cons,List.length_nil,qbc,qat,qbs,qbl,qbf,sto_sh,stoc0,stocS,Nat.reduceAdd,tok_rows,r60,s60,Nat.add_assoc]);(with_reducible apply qac)))
 conv=>arg 2;arg 1;simp (disch:=first|omega|assumption) only [Nat.zero_add,List.length_append,List.length_cons,List.length_nil,canon_ref,Nat.reduceAdd,seq87,r135,Nat.add_assoc,hstart,hyc]
 refine tot_bn hwalk fun r hr=>?_
 have hset:∀ (L:St) (i:Nat) (x:Slot),(A++L).set (A.length+i) x=A++L.set i x:=fun L i x=>set_sh A L i x
 cases x with
 | error a =>
  obtain ⟨n',rows',s',rfl⟩:=hr
  have hdf:(T A n' rows' s' .busy)[A.length+10]?=some .dfb:=get_sh _ _ _
  have hm:=fun dc res r p=>leaves_mark dc res (A.length+10) [] r p (T A n' rows' s' .busy) hdf
  obtain ⟨M,hM⟩:∃ M,(T A n' rows' s' .busy).set (A.length+10) .dead=A++(.cells [.sl .full 0 []]::.cells [.int .i64 0]::.cells [.int .i64 0]::.cells [.int .i64 0]::M):=⟨_,by unfold T;rw [set_sh];rfl⟩
  (repeat' first|(with_reducible first|apply tp_pan|apply qai)|((conv=>arg 2;arg 1;simp (disch:=first|omega|assumption) only [bn_some,Option.map_some,Option.bind_some,qax,leaves_cons,qa4,Nat.zero_add,List.length_append,List.length_cons,List.length_nil,ld_sh,qa7,ldc0,ldcS,Nat.reduceAdd,hm,Nat.add_assoc,hM,dc59p]);(with_reducible apply qac)))
  ((try conv=>arg 2;simp (disch:=first|omega|assumption) only [qae,qao,shut_sl,shut_tup,qby,qbv,own_full,qam,qad,qaj,qb7,qbu,qbm,canon_nil,qab,qah,List.take_left']);refine qal ?_)
  rfl
 | ok l =>
  obtain ⟨n',s',rfl⟩:=hr
  have hend:=end_ready (T_ready (A:=A) (n:=n') (rows:=[]++l) (s:=s'))
  have hld7:loadO false 1 (.ref (A.length+5) 0) ((T A n' ([]++l) s' .ready).set (A.length+11) .dead)=some (.sl (.own (A.length+6) 0) 1 (l.map encRow)):=by
   unfold T;rw [set_sh,ld_sh];rfl
  obtain ⟨M,hM⟩:∃ M,(T A n' ([]++l) s' .ready).set (A.length+11) .dead=A++(.cells [.sl .full 0 []]::.cells [.int .i64 0]::.cells [.int .i64 0]::.cells [.int .i64 0]::M)∧M[6]?=some .dfb:=⟨_,by unfold T;rw [set_sh];rfl,rfl⟩
  obtain ⟨hM,hM6⟩:=hM
  have hdf:∀ a b c d:Slot,(A++(a::b::c::d::M))[A.length+10]?=some .dfb:=fun a b c d=>by rw [get_sh];exact hM6
  have hm:=fun dc res r p a b c d=>leaves_mark dc res (A.length+10) [] r p (A++(a::b::c::d::M)) (hdf a b c d)
  have hs10:∀ a b c d x:Slot,(A++(a::b::c::d::M)).set (A.length+10) x=A++(a::b::c::d::M.set 6 x):=fun a b c d x=>by rw [set_sh];rfl
  rw [hM] at hend hld7
  (repeat' first|(with_reducible first|apply qa3|apply qa1|apply qai|apply tp_exn)|((conv=>arg 2;arg 1;simp (disch:=first|omega|assumption) only [bn_some,Option.map_some,Option.bind_some,qax,leaves_cons,qa4,Nat.zero_add,lay_int,lay_sl,List.length_append,List.length_cons,List.length_nil,qbc,ld_sh,qa7,ldc0,ldcS,sto_sh,sto_sh0,stoc0,stocS,Nat.reduceAdd,hend,Nat.add_assoc,hld7,hm,hs10,dc59n]);(with_reducible apply qac)))
  ((try conv=>arg 2;simp (disch:=first|omega|assumption) only [qae,qao,shut_sl,shut_tup,qby,qbv,own_new,qam,qad,qaj,qb7,qbu,qbm,qab,qah,List.take_left']);refine qal ?_)
  simp only [(plainRows l).shut,canon_sl (plainRows l)]
  rfl
end Go.Vm.Rx

/- What the reference's tests of expressions come to. -/
namespace Go.Vm.Rx
open Go Go.Proofs P
set_option maxRecDepth 10000
set_option maxHeartbeats 1100000
mutual
def encRx:Rx→D|.mk op nm ks=>.agg [.int .i64 op,.str nm,encL 3 (encRxs ks)]
def encRxs:List Rx→List D|[]=>[]|r::rs=>encRx r::encRxs rs
end
theorem encRxs_eq:∀ l,encRxs l=l.map encRx
 | []=>rfl
 | r::rs=>by simp [encRxs,encRxs_eq rs]
theorem encRx_eq (r:Rx):encRx r=.agg [.int .i64 r.op,.str r.nm,encL 3 (r.ks.map encRx)]:=by
 cases r with
 | mk op nm ks=>rw [encRx,encRxs_eq];rfl
mutual
theorem plainRx:∀ r,Plain (encRx r)
 | .mk op nm ks=>by
  have h:=encL_plain (plainRxs0 ks) 3
  refine ⟨fun n=>?_, ?_⟩
  ·rw [encRx];simp [h.shut]
  ·rw [encRx];simp [canon_agg,qbm,qbu,h.canon]
theorem plainRxs0:∀ l,PlainL (encRxs l)
 | []=>⟨fun _=>rfl,rfl⟩
 | r::rs=>⟨fun n=>by rw [encRxs,qbv,(plainRx r).shut,(plainRxs0 rs).shut],by rw [encRxs,qbm,(plainRx r).canon,(plainRxs0 rs).canon]⟩
end
theorem plainRxs (l:List Rx):PlainL (l.map encRx):=PlainL.map plainRx l
theorem rx_fold (r:Rx):D.agg [.int .i64 r.op,.str r.nm,encL 3 (r.ks.map encRx)]=encRx r:=(encRx_eq r).symm
theorem rx_cell (r:Rx):(encRx r).cellsT true=some [.int .i64 r.op,.str r.nm,encL 3 (r.ks.map encRx)]:=by rw [encRx_eq];rfl
theorem rx_box (r:Rx) (A:St):boxO true (encRx r) A=some (.ref A.length 0,A++[.cells [.int .i64 r.op,.str r.nm,encL 3 (r.ks.map encRx)]]):=by rw [encRx_eq];rfl
theorem qb2 (r:Rx):(encRx r).canon=encRx r:=(plainRx r).canon
theorem rxs_canon (l:List Rx) (n:Nat):(encL n (l.map encRx)).canon=encL n (l.map encRx):=(encL_plain (plainRxs l) n).canon
theorem rxs_shut (l:List Rx) (n m:Nat):(encL n (l.map encRx)).shut m=encL n (l.map encRx):=(encL_plain (plainRxs l) n).shut m
theorem drop_mem {α:Type} {l t:List α} {i:Nat} {x:α} (h:l.drop i=x::t):x ∈ l:=List.mem_of_mem_drop (i:=i) (by rw [h];simp)

theorem s158_loop (A:St) (op:Int) (l:List Rx) (hl:l.length≤100000000):∀ (t:List Rx) (i:Nat),l.drop i=t →
  LP Tryz.prog rxA 158 [0,1,0,1] [A] (Env.mk (sp [(0,encL 3 (l.map encRx)),(0,.int .i64 op),(3,.int .i64 (i:Nat))] 13) []) A=some (.ret (.bool (!hasOp op t)),A):=by
 intro t
 induction t with
 | nil =>
  intro i ht
  have h1:=qb1 ht
  refine qbb (qbh (q158_0 ..) ?_)
  unfold n158_0;dsimp only
  (repeat' first|(with_reducible first|apply qai|apply qaa (b:=false)|apply qan)|((conv=>arg 2;arg 1;simp only [Option.map_some,qax,qa6,qa9,qa8,qa0,List.length_map]);(with_reducible first|apply qac|(apply qa2;omega))))
  all_goals (((try conv=>arg 2;simp only [qae,qaw,qar,qad,List.take_length,qau,qab,qah]);refine qal ?_);rfl)
 | cons k t ih =>
  intro i ht
  have h1:=qbz ht
  have hx:=qb6 (f:=encRx) ht 3 true .i64
  refine qbb (qbh (q158_0 ..) ?_)
  unfold n158_0;dsimp only
  (repeat' first|(with_reducible first|apply qa3|apply tp_gk|apply qai|apply qaa (b:=true)|apply qaa (b:=false)|apply qap|apply qan)|((conv=>arg 2;arg 1;simp (disch:=first|omega|assumption) only [Option.map_some,qbe,qa5,qar,qax,qbt,qav,qa4,List.drop_zero,qa6,qa9,qa8,qbc,qa0,List.length_map,hx,rx_cell]);(with_reducible first|apply qac|apply qbg|(apply qas;omega)|(apply tot_eql;all_goals intro hsp))))
  ·((try conv=>arg 2;simp only [qae,qaw,qar,qad,List.take_length,qau,qab,qah]);refine qal ?_)
   simp [hasOp, *]
  ·have:=ih (i+1) (qbi ht)
   have e:hasOp op (k::t)=hasOp op t:=by simp [hasOp, *]
   conv=>arg 2;simp (disch:=first|omega|assumption) only [qao,qbr,List.take_length,List.map_nil,qa6,qa8,rxs_shut]
   refine qay ?_
   rw [e];exact this
theorem s158 (A:St) (op:Int) (l:List Rx) (hl:l.length≤100000000):f158 (encL 3 (l.map encRx)) (.int .i64 op) A=some (.ret (.bool (!hasOp op l)),A):=by
 unfold f158 n158;dsimp only
 exact s158_loop A op l hl l 0 rfl
theorem nodeOk_int (op:Int) (nm:Str) (ks:List Rx):nodeOk op nm ks =
  if op=1∨op=2 then isName nm && decide ((ks.length:Int)=0)
  else if op=3 then decide (nm=[]) && decide ((ks.length:Int)=0)
  else if op=4 then decide (nm=[]) && !decide ((ks.length:Int)=1) && !hasOp 4 ks
  else if op=5 then decide (nm=[]) && decide ((ks.length:Int) ≥ 2) && !hasOp 5 ks
  else if op=6∨op=7∨op=8 then decide (nm=[]) && decide ((ks.length:Int)=1)
  else false:=by
 have e0:(ks.length == 0)=decide ((ks.length:Int)=0):=by rw [Bool.eq_iff_iff];simp
 have e1:(ks.length == 1)=decide ((ks.length:Int)=1):=by rw [Bool.eq_iff_iff];simp;omega
 have e2:(ks.length != 1)=!decide ((ks.length:Int)=1):=by unfold bne;rw [e1]
 have e3:decide (2≤ks.length)=decide ((ks.length:Int) ≥ 2):=by rw [Bool.eq_iff_iff];simp;omega
 have e4:(nm == [])=decide (nm=[]):=by rw [Bool.eq_iff_iff];simp
 unfold nodeOk
 rw [e0,e1,e2,e3,e4]
theorem s126 (A:St) (r:Rx) (hr:r.Ok):f126 (encRx r) A=some (.ret (.bool (nodeOk r.op r.nm r.ks)),A):=by
 have hl:=hr.len
 have hn:=hr.nml
 unfold f126 n126;dsimp only
 refine qbb ?_
 (repeat' first|(with_reducible first|(apply tot_jn;intro hkk hke)|(apply tot_jk;· assumption)|apply qac|apply qa3|apply qaz|apply qa1|apply qai|apply qag (b:=true)|apply qag (b:=false)|apply qaa (b:=true)|apply qaa (b:=false)|apply qap|apply qan|apply qbd|apply qbj|(apply tot_eql;all_goals intro hsp)|(apply tot_seql;all_goals intro hsp)|(apply tot_gb_t;assumption)|(apply tot_gb_f;assumption)|(apply tot_bq_t;assumption)|(apply tot_bq_f;assumption)|(apply tot_gb;all_goals intro hsp))|((conv=>arg 2;arg 1;simp (disch:=first|omega|assumption) only [qaq,qak,Option.map_some,qax,qaf,qa4,qb3,Nat.zero_add,Nat.add_zero,qaj,qat,qa0,qa7,ldc0,List.length_map,eg_0,eg_S,rx_box,r48,s48,r158,s158,rxs_canon]);(with_reducible first|apply qac|apply qag (b:=true)|apply qag (b:=false)|apply qaa (b:=true)|apply qaa (b:=false)|(apply tot_geq;all_goals intro hsp)|(apply tot_eql;all_goals intro hsp)|(apply tot_neq;all_goals intro hsp))))
 all_goals (rw [nodeOk_int];((try conv=>arg 2;simp (disch:=first|omega|assumption) only [qae,qaw,qam,qad,qau,qab,qah,List.take_left']);refine qal ?_);simp only [*,or_true,true_or,or_false,false_or,or_self,if_true,if_false,decide_true,decide_false,Bool.and_true,Bool.true_and,Bool.and_false,Bool.false_and,Bool.not_true,Bool.not_false,not_false_eq_true];try simp)
theorem s95_loop (A:St) (r:Rx) (hr:r.Ok) (most:Int) (hm:1≤most) (hm2:most≤1100000) (hk:∀ k,k ∈ r.ks→∀ A,f95 (encRx k) (.int .i64 (most - 1)) A=some (.ret (.bool (decide (most - 1<(k.depth:Int)))),A)) :
  ∀ (t:List Rx) (i:Nat),r.ks.drop i=t →
  LP Tryz.prog rxA 95 [0,1,0,1,1] [A] (Env.mk (sp [(1,.int .i64 most),(0,.ref A.length 0),(2,.int .i64 (i:Nat))] 17) []) (A++[.cells [.int .i64 r.op,.str r.nm,encL 3 (r.ks.map encRx)]])=some (.ret (.bool (decide (most - 1<(Rx.depths t:Int)))),A):=by
 intro t
 have hl:=hr.len
 have hsh:(D.ref A.length 0).shut (A.length+1)=.ref A.length 0:=shut_ref _ (by omega)
 induction t with
 | nil =>
  intro i ht
  have h1:=qb1 ht
  refine qbb (qbh (q95_0 ..) ?_)
  unfold n95_0;dsimp only
  (repeat' first|(with_reducible first|apply qa3|apply qai|apply qaa (b:=false)|apply qan)|((conv=>arg 2;arg 1;simp only [Option.map_some,qax,qaf,qa4,qb3,Nat.zero_add,qa6,qa9,qa8,qa0,qa7,ldc0,List.length_map]);(with_reducible first|apply qac|(apply qa2;omega))))
  ((try conv=>arg 2;simp (disch:=first|omega|assumption) only [qae,qaw,qam,qad,qau,qab,qah,List.take_left']);refine qal ?_)
  have:¬ most - 1<0:=by omega
  simp [Rx.depths,this]
 | cons k t ih =>
  intro i ht
  have h1:=qbz ht
  have hx:=qb6 (f:=encRx) ht 3 true .i64
  have hkk:=hk k (drop_mem ht)
  refine qbb (qbh (q95_0 ..) ?_)
  unfold n95_0;dsimp only
  have hd:Rx.depths (k::t)=max k.depth (Rx.depths t):=rfl
  (repeat' first|(with_reducible first|apply qa3|apply qa1|apply tp_gk|apply qai|apply qaa (b:=true)|apply qap|apply qan|(apply tot_bq_d;all_goals intro hsp))|((conv=>arg 2;arg 1;simp (disch:=first|omega|assumption) only [Option.map_some,qbe,qb9,qa5,qar,qax,qaf,qav,qa4,qb3,Nat.zero_add,ofA3,qa6,qa9,qa8,qbc,qaj,qa0,qa7,ldc0,List.length_map,hx,rx_cell,rx_fold,qb2,r95,hkk]);(with_reducible first|apply qac|apply qbg|(apply qas;omega))))
  ·((try conv=>arg 2;simp (disch:=first|omega|assumption) only [qae,qaw,qam,qad,qau,qab,qah,List.take_left']);refine qal ?_)
   have:most - 1<(Rx.depths (k::t):Int):=by rw [hd];omega
   simp [this]
  ·have:=ih (i+1) (qbi ht)
   have e:decide (most - 1<(Rx.depths (k::t):Int))=decide (most - 1<(Rx.depths t:Int)):=by rw [hd,decide_eq_decide];omega
   conv=>arg 2;simp (disch:=first|omega|assumption) only [qao,qbr,List.map_nil,Nat.zero_add,List.length_append,List.length_cons,List.length_nil,qa6,qa9,qa8,take_n1,hsh]
   refine qay ?_
   rw [e];exact this
theorem s95:∀ (r:Rx) (hr:r.Ok) (most:Int) (hm0:0≤most) (hm:most≤1100000) (A:St),f95 (encRx r) (.int .i64 most) A=some (.ret (.bool (decide (most<(r.depth:Int)))),A):=by
 refine Rx.ind ?_
 intro r ih hr most hm0 hm A
 have hp:=Rx.depth_pos r
 unfold f95 n95;dsimp only
 refine qbb ?_
 (repeat' first|(with_reducible first|apply qai|apply qaa (b:=true)|apply qaa (b:=false)|apply qap|apply qan|(apply tot_leq;all_goals intro hsp))|((conv=>arg 2;arg 1;simp (disch:=first|omega|assumption) only [rx_box]);(with_reducible apply qac)))
 ·((try conv=>arg 2;simp (disch:=first|omega|assumption) only [qae,qaw,qam,qad,qau,qab,qah,List.take_left']);refine qal ?_)
  have:most<(r.depth:Int):=by omega
  simp [this]
 ·have:=s95_loop A r hr most (by omega) hm (fun k hk A=>ih k hk (hr.kid hk) _ (by omega) (by omega) A) r.ks 0 rfl
  have e:decide (most<(r.depth:Int))=decide (most - 1<(Rx.depths r.ks:Int)):=by rw [Rx.depth_eq,decide_eq_decide];omega
  (refine qay ?_;(conv=>lhs;simp only []);rw [e];exact this)
theorem s96_loop (A:St) (r:Rx) (hr:r.Ok) (hk:∀ k,k ∈ r.ks→∀ A,f96 (encRx k) A=some (.ret (.bool k.right),A)) :
  ∀ (t:List Rx) (i:Nat) (b:Bool),r.ks.drop i=t →
  LP Tryz.prog rxA 96 [0,1,0,1,1] [A] (Env.mk (sp [(1,.ref A.length 0),(1,.bool b),(0,.int .i64 (i:Nat))] 19) []) (A++[.cells [.int .i64 r.op,.str r.nm,encL 3 (r.ks.map encRx)]])=some (.ret (.bool (b && Rx.rights t)),A):=by
 intro t
 have hl:=hr.len
 have hsh:(D.ref A.length 0).shut (A.length+1)=.ref A.length 0:=shut_ref _ (by omega)
 induction t with
 | nil =>
  intro i b ht
  have h1:=qb1 ht
  refine qbb (qbh (q96_0 ..) ?_)
  unfold n96_0;dsimp only
  (repeat' first|(with_reducible first|apply qa3|apply qai|apply qaa (b:=false)|apply qan)|((conv=>arg 2;arg 1;simp only [Option.map_some,qax,qaf,qa4,qb3,Nat.zero_add,qa6,qa9,qa8,qa0,qa7,ldc0,List.length_map]);(with_reducible first|apply qac|(apply qa2;omega))))
  ((try conv=>arg 2;simp (disch:=first|omega|assumption) only [qae,qaw,qam,qad,qau,qab,qah,List.take_left']);refine qal ?_)
  simp [Rx.rights]
 | cons k t ih =>
  intro i b ht
  have h1:=qbz ht
  have hx:=qb6 (f:=encRx) ht 3 true .i64
  have hkk:=hk k (drop_mem ht)
  refine qbb (qbh (q96_0 ..) ?_)
  unfold n96_0;dsimp only
  cases b
  ·(repeat' first|(with_reducible first|apply qac|apply qa3|apply qaz|apply qa1|apply tp_gk|apply qaa (b:=true)|apply qap|apply qbj)|((conv=>arg 2;arg 1;simp (disch:=first|omega|assumption) only [qbe,qa5,qar,qaf,qa4,qb3,Nat.zero_add,qa6,qa9,qa8,qa0,qa7,ldc0,List.length_map]);(with_reducible first|apply qac|apply qbg|apply qag (b:=false)|apply qaa (b:=false)|(apply qas;omega))))
   have:=ih (i+1) false (qbi ht)
   conv=>arg 2;simp (disch:=first|omega|assumption) only [qak,qao,qaw,qbr,List.map_nil,Nat.zero_add,List.length_append,List.length_cons,List.length_nil,qa6,qa9,take_n1,hsh]
   refine qay ?_
   simpa using this
  ·(repeat' first|(with_reducible first|apply qac|apply qa3|apply qaz|apply qa1|apply tp_gk|apply qaa (b:=true)|apply qap|apply qbd)|((conv=>arg 2;arg 1;simp (disch:=first|omega|assumption) only [qbe,qa5,qar,qaf,qav,qa4,qb3,Nat.zero_add,ofA3,qa6,qa9,qa8,qbc,qa0,qa7,ldc0,List.length_map,hx,rx_cell,rx_fold,qb2,r96,hkk]);(with_reducible first|apply qac|apply qbg|apply qag (b:=true)|apply qaa (b:=true)|(apply qas;omega))))
   have:=ih (i+1) k.right (qbi ht)
   conv=>arg 2;simp (disch:=first|omega|assumption) only [qaq,qao,qaw,qbr,List.map_nil,Nat.zero_add,List.length_append,List.length_cons,List.length_nil,qa6,qa9,take_n1,hsh]
   refine qay ?_
   simpa [Rx.rights] using this
theorem s96:∀ (r:Rx) (hr:r.Ok) (A:St),f96 (encRx r) A=some (.ret (.bool r.right),A):=by
 refine Rx.ind ?_
 intro r ih hr A
 have hn:=fun A=>s126 A r hr
 unfold f96 n96;dsimp only
 refine qbb ?_
 (repeat' first|(with_reducible first|apply qa3|apply qa1)|((conv=>arg 2;arg 1;simp (disch:=first|omega|assumption) only [ofA3,qa7,ldc0,rx_box,rx_fold,qb2,r126,hn]);(with_reducible apply qac)))
 have:=s96_loop A r hr (fun k hk A=>ih k hk (hr.kid hk) A) r.ks 0 (nodeOk r.op r.nm r.ks) rfl
 (refine qay ?_;(conv=>lhs;simp only []);rw [Rx.right_eq];exact this)
def sizedOut (most deep:Int) (size depth:Int) (A:St) (x:Res×St):Prop :=
 ∃ n d:Int,x=(.ret (.tup [.int .i64 n,.int .i64 d]),A)∧(size≤most∧depth≤deep→n=size∧d=depth)∧(¬ (size≤most∧depth≤deep)→n=most+1)∧0≤n∧0≤d∧d≤max deep 0
theorem s94_loop (A:St) (r:Rx) (hr:r.Ok) (most deep:Int) (hm:0≤most) (hm2:most≤1100000) (hd1:1≤deep) (hd2:deep≤1100000)
  (hk:∀ k,k ∈ r.ks→∀ m,0≤m→m≤1100000→∀ A,Tot (sizedOut m (deep - 1) k.size k.depth A) (f94 (encRx k) (.int .i64 m) (.int .i64 (deep - 1)) A)) :
  ∀ (t:List Rx) (i:Nat) (n d:Int),r.ks.drop i=t→0≤n→n≤most+1→0≤d→d≤deep - 1 →
  Tot (sizedOut most deep (n+(Rx.sizes t:Int)) (max d (Rx.depths t:Int)+1) A) (LP Tryz.prog rxA 94 [0,1,0,1,1,1] [A] (Env.mk (sp [(1,.int .i64 most),(0,.int .i64 deep),(0,.ref A.length 0),(4,.int .i64 n),(0,.int .i64 d),(0,.int .i64 (i:Nat))] 42) []) (A++[.cells [.int .i64 r.op,.str r.nm,encL 3 (r.ks.map encRx)]])):=by
 intro t
 have hl:=hr.len
 have hsh:(D.ref A.length 0).shut (A.length+1)=.ref A.length 0:=shut_ref _ (by omega)
 induction t with
 | nil =>
  intro i n d ht h1 h2 h3 h4
  have hl1:=qb1 ht
  refine qbh (q94_0 ..) ?_
  unfold n94_0;dsimp only
  (repeat' first|(with_reducible first|apply qac|apply qa3|apply qaz|apply qai|apply qag (b:=false)|apply qaa (b:=false)|apply qan|apply qbj)|((conv=>arg 2;arg 1;simp (disch:=first|omega|assumption) only [qak,Option.map_some,qbe,qa5,qax,qaf,qa4,qb3,Nat.zero_add,qa6,qa9,qa8,qa0,qa7,ldc0,List.length_map]);(with_reducible first|apply qac|apply qaa (b:=false)|(apply qa2;omega))))
  ((try conv=>arg 2;simp (disch:=first|omega|assumption) only [qae,qao,shut_tup,qby,qbv,qam,qad,qaj,qb7,qbu,qbm,qab,qah,List.take_left']);refine qal ?_)
  refine ⟨n,d+1,rfl, ?_, ?_, ?_, ?_, ?_⟩<;>(try simp only [Rx.sizes,Rx.depths])<;>omega
 | cons k t ih =>
  intro i n d ht h1 h2 h3 h4
  have hl1:=qbz ht
  have hx:=qb6 (f:=encRx) ht 3 true .i64
  have hsz:Rx.sizes (k::t)=k.size+Rx.sizes t:=rfl
  have hdp:Rx.depths (k::t)=max k.depth (Rx.depths t):=rfl
  have hsp:=Rx.size_pos k
  refine qbh (q94_0 ..) ?_
  unfold n94_0;dsimp only
  by_cases hn:n≤most
  ·have hkk:=hk k (drop_mem ht) (most - n) (by omega) (by omega)
   (repeat' first|(with_reducible first|apply qac|apply qa3|apply qaz|apply qag (b:=true)|apply qaa (b:=true)|apply qap|apply qbd)|((conv=>arg 2;arg 1;simp (disch:=first|omega|assumption) only [qaq,qb9,qa5,qaf,qav,qa4,qb3,Nat.zero_add,ofA3,qa6,qa9,qa8,qbc,qa0,qa7,ldc0,List.length_map,hx,rx_cell,rx_fold]);(with_reducible first|apply qac|apply qaa (b:=true)|(apply qas;omega)|(apply tot_leq_t;omega))))
   conv=>arg 2;arg 1;simp (disch:=first|omega|assumption) only [qaj,qb2,r94]
   refine tot_bn (hkk _) fun x hx=>?_
   obtain ⟨m,e,rfl,hg,hb,hm0,he0,he1⟩:=hx
   have hmm:m≤most - n+1:=by
    by_cases hc:(k.size:Int)≤most - n∧(k.depth:Int)≤deep - 1
    ·have:=(hg hc).1;omega
    ·have:=hb hc;omega
   (repeat' first|(with_reducible first|(apply tot_jn;intro hkk hke)|(apply tot_jk;· assumption)|apply qa1|apply tp_gk|apply qaa (b:=true)|apply qaa (b:=false)|apply qap|apply qan)|((conv=>arg 2;arg 1;simp (disch:=first|omega|assumption) only [qbe,qa5,qar,qa6,qa9,qa8,ext0,extS,eg_0,eg_S]);(with_reducible first|apply qac|apply qbg|(apply tot_gtr;all_goals intro hsp))))
   ·have:=ih (i+1) (n+m) e (qbi ht) (by omega) (by omega) (by omega) (by omega)
    conv=>arg 2;simp (disch:=first|omega|assumption) only [qao,qbr,List.map_nil,Nat.zero_add,List.length_append,List.length_cons,List.length_nil,qa6,qa9,qa8,take_n1,eg_0,eg_S,hsh]
    refine Tot.mono this fun y hy=>?_
    obtain ⟨N,D,rfl,h5,h6,h7,h8,h9⟩:=hy
    refine ⟨N,D,rfl, ?_, ?_,h7,h8,h9⟩<;>rw [hsz,hdp]<;>omega
   ·have:=ih (i+1) (n+m) d (qbi ht) (by omega) (by omega) (by omega) (by omega)
    conv=>arg 2;simp (disch:=first|omega|assumption) only [qao,qbr,List.map_nil,Nat.zero_add,List.length_append,List.length_cons,List.length_nil,qa6,qa9,qa8,take_n1,eg_0,eg_S,hsh]
    refine Tot.mono this fun y hy=>?_
    obtain ⟨N,D,rfl,h5,h6,h7,h8,h9⟩:=hy
    refine ⟨N,D,rfl, ?_, ?_,h7,h8,h9⟩<;>rw [hsz,hdp]<;>omega
  ·(repeat' first|(with_reducible first|apply qac|apply qa3|apply qaz|apply qai|apply qag (b:=true)|apply qaa (b:=true)|apply qan|apply qbd)|((conv=>arg 2;arg 1;simp (disch:=first|omega|assumption) only [qaq,Option.map_some,qbe,qa5,qax,qaf,qa4,qb3,Nat.zero_add,qa6,qa9,qa8,qa0,qa7,ldc0,List.length_map]);(with_reducible first|apply qac|apply qaa (b:=false)|(apply qas;omega)|(apply tot_leq_f;omega))))
   ((try conv=>arg 2;simp (disch:=first|omega|assumption) only [qae,qao,shut_tup,qby,qbv,qam,qad,qaj,qb7,qbu,qbm,qab,qah,List.take_left']);refine qal ?_)
   refine ⟨n,d+1,rfl, ?_, ?_, ?_, ?_, ?_⟩<;>rw [hsz] at *<;>omega
theorem s94:∀ (r:Rx) (hr:r.Ok) (deep most:Int) (hd:deep≤1100000) (hm0:0≤most) (hm:most≤1100000) (hd0:0≤deep) (A:St),Tot (sizedOut most deep r.size r.depth A) (f94 (encRx r) (.int .i64 most) (.int .i64 deep) A):=by
 refine Rx.ind ?_
 intro r ih hr deep most hd hm0 hm hd0 A
 have hp:=Rx.depth_pos r
 unfold f94 n94;dsimp only
 (repeat' first|(with_reducible first|apply qai|apply qaa (b:=true)|apply qaa (b:=false)|apply qap|apply qan|(apply tot_leq;all_goals intro hsp))|((conv=>arg 2;arg 1;simp (disch:=first|omega|assumption) only [qbe,qa5,rx_box]);(with_reducible apply qac)))
 ·((try conv=>arg 2;simp (disch:=first|omega|assumption) only [qae,qao,shut_tup,qby,qbv,qam,qad,qaj,qb7,qbu,qbm,qab,qah,List.take_left']);refine qal ?_)
  exact ⟨most+1,0,rfl,by omega,by omega,by omega,by omega,by omega⟩
 ·have:=s94_loop A r hr most deep hm0 hm (by omega) hd (fun k hk m h1 h2 A=>ih k hk (hr.kid hk) (deep - 1) m (by omega) h1 h2 (by omega) A) r.ks 0 1 0 rfl (by omega) (by omega) (by omega) (by omega)
  conv=>arg 2;simp only []
  refine Tot.mono this fun y hy=>?_
  obtain ⟨N,D,rfl,h5,h6,h7,h8,h9⟩:=hy
  have e1:=Rx.size_eq r
  have e2:=Rx.depth_eq r
  exact ⟨N,D,rfl,by omega,by omega,h7,h8,h9⟩
end Go.Vm.Rx
