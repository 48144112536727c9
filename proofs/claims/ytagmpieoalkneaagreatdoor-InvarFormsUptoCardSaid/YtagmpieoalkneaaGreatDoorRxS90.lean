/- RxS87, RxNX, RxS88, RxS89, RxS90 in one text. -/
import Derived.Test.YtagmpieoalkneaaGreatDoorRxS35
import Derived.Test.YtagmpieoalkneaaGreatDoorRxTop
import Derived.Test.YtagmpieoalkneaaGreatDoorRxOk
import Derived.Test.YtagmpieoalkneaaGreatDoorRxS25
set_option linter.all false
/- Topologies as data;names that rise,to both texts. -/
namespace Go.Vm.Rx
open Go Go.Proofs P
set_option maxRecDepth 10000
set_option maxHeartbeats 4000000
def devC (d:Dev):List D:=[.str d.nm,encL 1 (d.cl.map .str),encL 1 (d.po.map .str)]
def encDev (d:Dev):D:=.agg (devC d)
def lnkC (x:Lnk):List D:=[.int .i64 x.a,.str x.p,.int .i64 x.b,.str x.q]
def encLnk (x:Lnk):D:=.agg (lnkC x)
def topC (t:Top):List D:=[.int .i64 t.w,encL 3 (t.ds.map encDev),encL 4 (t.ls.map encLnk)]
def encTop (t:Top):D:=.agg (topC t)
theorem plainDev (d:Dev):Plain (encDev d):=by
 refine ⟨fun n=>?_, ?_⟩
 ·simp [encDev,devC,str_shut,D.shut]
 ·simp [encDev,devC,D.canon,D.canonL,str_canon]
theorem plainDevs (l:List Dev):PlainL (l.map encDev):=PlainL.map plainDev l
theorem plainLnk (x:Lnk):Plain (encLnk x):=by
 refine ⟨fun n=>?_, ?_⟩
 ·simp [encLnk,lnkC,D.shut]
 ·simp [encLnk,lnkC,D.canon,D.canonL]
theorem plainLnks (l:List Lnk):PlainL (l.map encLnk):=PlainL.map plainLnk l
theorem devs_shut (l:List Dev) (n m:Nat):(encL n (l.map encDev)).shut m=encL n (l.map encDev):=(encL_plain (plainDevs l) n).shut m
theorem devs_canon (l:List Dev) (n:Nat):(encL n (l.map encDev)).canon=encL n (l.map encDev):=(encL_plain (plainDevs l) n).canon
theorem lnks_shut (l:List Lnk) (n m:Nat):(encL n (l.map encLnk)).shut m=encL n (l.map encLnk):=(encL_plain (plainLnks l) n).shut m
theorem lnks_canon (l:List Lnk) (n:Nat):(encL n (l.map encLnk)).canon=encL n (l.map encLnk):=(encL_plain (plainLnks l) n).canon
theorem plainTop (t:Top):Plain (encTop t):=by
 refine ⟨fun n=>?_, ?_⟩
 ·simp [encTop,topC,devs_shut,lnks_shut,D.shut]
 ·simp [encTop,topC,D.canon,D.canonL,devs_canon,lnks_canon]
theorem cellDev (d:Dev):(encDev d).cellsT true=some (devC d):=by
 have:allCells (devC d)=true:=by simp [devC,allCells,D.cell?,encL]
 simp [encDev,D.cellsT,D.agg?,this]
theorem cellLnk (x:Lnk):(encLnk x).cellsT true=some (lnkC x):=by
 have:allCells (lnkC x)=true:=by simp [lnkC,allCells,D.cell?]
 simp [encLnk,D.cellsT,D.agg?,this]
theorem cellTop (t:Top):(encTop t).cellsT true=some (topC t):=by
 have:allCells (topC t)=true:=by simp [topC,allCells,D.cell?,encL]
 simp [encTop,D.cellsT,D.agg?,this]
theorem topbx (t:Top) (A:St):boxO true (encTop t) A=some (.ref A.length 0,A++[.cells (topC t)]):=by simp [boxO,cellTop,allocD]
section
variable (t:Top) (d:Dev) (x:Lnk)
theorem topc0:ofCells false (topC t) 0 1=some (.int .i64 t.w):=rfl
theorem topc1:ofCells false (topC t) 1 1=some (encL 3 (t.ds.map encDev)):=rfl
theorem topc2:ofCells false (topC t) 2 1=some (encL 4 (t.ls.map encLnk)):=rfl
theorem topcA:ofCells true (topC t) 0 3=some (encTop t):=rfl
theorem devc0:ofCells false (devC d) 0 1=some (.str d.nm):=rfl
theorem devc1:ofCells false (devC d) 1 1=some (encL 1 (d.cl.map .str)):=rfl
theorem devc2:ofCells false (devC d) 2 1=some (encL 1 (d.po.map .str)):=rfl
theorem devcA:ofCells true (devC d) 0 3=some (encDev d):=rfl
theorem lnkc0:ofCells false (lnkC x) 0 1=some (.int .i64 x.a):=rfl
theorem lnkc1:ofCells false (lnkC x) 1 1=some (.str x.p):=rfl
theorem lnkc2:ofCells false (lnkC x) 2 1=some (.int .i64 x.b):=rfl
theorem lnkc3:ofCells false (lnkC x) 3 1=some (.str x.q):=rfl
theorem lnkcA:ofCells true (lnkC x) 0 4=some (encLnk x):=rfl
end
structure DevOk (d:Dev):Prop where
 nm:d.nm.length≤100000000
 cl:d.cl.length≤100000000∧∀ s,s ∈ d.cl→s.length≤100000000
 po:d.po.length≤100000000∧∀ s,s ∈ d.po→s.length≤100000000
structure TopOk (t:Top):Prop where
 ds:t.ds.length≤100000000∧∀ d,d ∈ t.ds→DevOk d
 ls:t.ls.length≤100000000∧∀ x,x ∈ t.ls→x.p.length≤100000000∧x.q.length≤100000000
section
variable (l:List Str) (hl:l.length≤100000000) (hs:∀ s,s ∈ l→s.length≤100000000) (most:Int) (A:St)
include hl hs
theorem s97_loop:∀ (t:List Str) (i:Nat),l.drop i=t→i≤l.length →
  LP Tryz.prog rxA 97 [0,1,0,1] [A] (Env.mk (sp [(0,encL 1 (l.map .str)),(0,.int .i64 most),(5,encL 1 (l.map .str)),(0,.int .i64 (l.length:Nat)),(0,.int .i64 (i:Nat))] 25) []) A=some (.ret (.bool (risT (ahead l i) t && decide ((l.length:Int)≤most))),A):=by
 have hsh:=str_shut l 1
 intro t
 induction t with
 | nil =>
  intro i ht hi
  have h1:=qb1 ht
  refine qbb (qbh (q97_0 ..) ?_)
  unfold n97_0;dsimp only
  (repeat' first|(with_reducible first|apply qai|apply qaa (b:=false)|apply qan)|((conv=>arg 2;arg 1;simp only [Option.map_some,qax,qa6,qa9,qa8,qa0,List.length_map]);(with_reducible first|apply qac|(apply qa2;omega)|(apply tot_leq;all_goals intro hsp))))
  all_goals (((try conv=>arg 2;simp only [qae,qaw,qar,qad,List.take_length,qau,qab,qah]);refine qal ?_);simp [risT, *]<;>omega)
 | cons x t ih =>
  intro i ht hi
  have h1:=qbz ht
  have hx:=qb6 (f:=D.str) ht 1 false .i64
  have hn:=fun A=>s34 x (by have:=hs x (drop_mem ht);omega) A
  have hah:=ahead_succ ht
  have hih:=ih (i+1) (qbi ht) (by omega)
  rw [hah] at hih
  refine qbb (qbh (q97_0 ..) ?_)
  unfold n97_0;dsimp only
  rw [risT_cons]
  cases hnx:isName x
  ·rw [hnx] at hn
   (repeat' first|(with_reducible first|apply qac|apply qa3|apply qaz|apply qa1|apply qai|apply qag (b:=true)|apply tot_gbn|apply qaa (b:=true)|apply qap|apply qan|apply qbq)|((conv=>arg 2;arg 1;simp (disch:=first|omega|assumption) only [qaq,Option.map_some,qax,qav,qa4,qb5,Bool.not_false,qa6,qa9,qa8,qbc,qat,cell_str,hx,r34,hn]);(with_reducible first|apply qac|apply qaa (b:=true)|(apply qas;omega))))
   ((try conv=>arg 2;simp only [qae,qaw,qar,qad,List.take_length,qau,qab,qah]);refine qal ?_)
   simp
  ·rw [hnx] at hn
   by_cases h0:i=0
   ·subst h0
    (repeat' first|(with_reducible first|apply qac|apply qa3|apply qaz|apply qa1|apply tp_gk|apply qag (b:=false)|apply qaa (b:=true)|apply qaa (b:=false)|apply qap|apply qan|apply qbj|apply qba)|((conv=>arg 2;arg 1;simp (disch:=first|omega|assumption) only [qak,qbe,qa5,qar,qav,qa4,qb5,Bool.not_true,qa6,qa9,qa8,qbc,qat,cell_str,hx,r34,hn]);(with_reducible first|apply qac|apply qbg|apply qaa (b:=false)|(apply qas;omega)|(apply qbo;omega))))
    (refine qay ?_;(conv=>lhs;simp only [qao,qbr,List.take_length,List.map_nil,qa6,qa9,qa8]);rw [hsh];simpa [ahead,lessO] using hih)
   ·have hix:=idx_ahead (l:=l) h0 h1
    have ha:ahead l i=some (l.getD (i - 1) []):=by unfold ahead;rw [if_neg h0]
    have hls:=sgeq 3 false (l.getD (i - 1) []) x
    rw [ha]
    generalize l.getD (i - 1) []=y at hix hls
    show Tot (fun z=>z=(Res.ret (.bool (true && decide (y<x) && risT (some x) t && decide ((l.length:Int)≤most))),A)) _
    cases hlt:decide (y<x)
    ·rw [hlt] at hls
     (repeat' first|(with_reducible first|apply qac|apply qa3|apply qaz|apply qa1|apply qai|apply qag (b:=true)|apply qag (b:=false)|apply qaa (b:=true)|apply qaa (b:=false)|apply qap|apply qbd|apply qba)|((conv=>arg 2;arg 1;simp (disch:=first|omega|assumption) only [qaq,qak,Option.map_some,qb9,qa5,qax,qav,qa4,qb5,Bool.not_true,Bool.not_false,qa6,qa9,qa8,qbc,qat,cell_str,hx,r34,hn,hix,hls]);(with_reducible first|apply qac|apply qaa (b:=true)|(apply qas;omega)|(apply qbx;omega))))
     ((try conv=>arg 2;simp only [qae,qaw,qar,qad,List.take_length,qau,qab,qah]);refine qal ?_)
     simp
    ·rw [hlt] at hls
     (repeat' first|(with_reducible first|apply qac|apply qa3|apply qaz|apply qa1|apply tp_gk|apply qag (b:=true)|apply qag (b:=false)|apply qaa (b:=true)|apply qaa (b:=false)|apply qap|apply qan|apply qbd|apply qba)|((conv=>arg 2;arg 1;simp (disch:=first|omega|assumption) only [qaq,qak,qbe,qb9,qa5,qar,qav,qa4,qb5,Bool.not_true,qa6,qa9,qa8,qbc,qat,cell_str,hx,r34,hn,hix,hls]);(with_reducible first|apply qac|apply qbg|apply qaa (b:=false)|(apply qas;omega)|(apply qbx;omega))))
     (refine qay ?_;(conv=>lhs;simp only [qao,qbr,List.take_length,List.map_nil,qa6,qa9,qa8]);rw [hsh];simpa using hih)
theorem s97:f97 (encL 1 (l.map .str)) (.int .i64 most) A=some (.ret (.bool (namesT l most)),A):=by
 have:=s97_loop l hl hs most A l 0 rfl (by omega)
 unfold f97 n97;dsimp only
 refine qbb ?_
 (repeat' first|((conv=>arg 2;arg 1;simp only [qa0,List.length_map]);(with_reducible apply qac)))
 (refine qay ?_;(conv=>lhs;simp only []);exact this)
theorem s103_loop:∀ (t:List Str) (i:Nat),l.drop i=t→i≤l.length →
  LP Tryz.prog rxA 103 [0,1,0,1] [A] (Env.mk (sp [(0,encL 1 (l.map .str)),(0,.int .i64 most),(3,.int .i64 (i:Nat))] 32) []) A=some (.ret (.bool (risT (ahead l i) t && decide ((l.length:Int)≤most))),A):=by
 have hsh:=str_shut l 1
 intro t
 induction t with
 | nil =>
  intro i ht hi
  have h1:=qb1 ht
  refine qbb (qbh (q103_0 ..) ?_)
  unfold n103_0;dsimp only
  (repeat' first|(with_reducible first|apply qai|apply qaa (b:=false)|apply qan)|((conv=>arg 2;arg 1;simp only [Option.map_some,qax,qa6,qa9,qa8,qa0,List.length_map]);(with_reducible first|apply qac|(apply qa2;omega)|(apply tot_leq;all_goals intro hsp))))
  all_goals (((try conv=>arg 2;simp only [qae,qaw,qar,qad,List.take_length,qau,qab,qah]);refine qal ?_);simp [risT, *]<;>omega)
 | cons x t ih =>
  intro i ht hi
  have h1:=qbz ht
  have hx:=qb6 (f:=D.str) ht 1 false .i64
  have hn:=fun A=>s48 x (by have:=hs x (drop_mem ht);omega) A
  have hah:=ahead_succ ht
  have hih:=ih (i+1) (qbi ht) (by omega)
  rw [hah] at hih
  refine qbb (qbh (q103_0 ..) ?_)
  unfold n103_0;dsimp only
  rw [risT_cons]
  cases hnx:isName x
  ·rw [hnx] at hn
   (repeat' first|(with_reducible first|apply qac|apply qa3|apply qaz|apply qa1|apply qai|apply qag (b:=true)|apply tot_gbn|apply qaa (b:=true)|apply qap|apply qan|apply qbq)|((conv=>arg 2;arg 1;simp (disch:=first|omega|assumption) only [qaq,Option.map_some,qax,qav,qa4,qb5,Bool.not_false,qa6,qa9,qa8,qbc,qat,qa0,cell_str,List.length_map,hx,r48,hn]);(with_reducible first|apply qac|apply qaa (b:=true)|(apply qas;omega))))
   ((try conv=>arg 2;simp only [qae,qaw,qar,qad,List.take_length,qau,qab,qah]);refine qal ?_)
   simp
  ·rw [hnx] at hn
   by_cases h0:i=0
   ·subst h0
    (repeat' first|(with_reducible first|apply qac|apply qa3|apply qaz|apply qa1|apply tp_gk|apply qag (b:=false)|apply qaa (b:=true)|apply qaa (b:=false)|apply qap|apply qan|apply qbj|apply qba)|((conv=>arg 2;arg 1;simp (disch:=first|omega|assumption) only [qak,qbe,qa5,qar,qav,qa4,qb5,Bool.not_true,qa6,qa9,qa8,qbc,qat,qa0,cell_str,List.length_map,hx,r48,hn]);(with_reducible first|apply qac|apply qbg|apply qaa (b:=false)|(apply qas;omega)|(apply qbo;omega))))
    (refine qay ?_;(conv=>lhs;simp only [qao,qbr,List.take_length,List.map_nil,qa6,qa8]);rw [hsh];simpa [ahead,lessO] using hih)
   ·have hix:=idx_ahead (l:=l) h0 h1
    have ha:ahead l i=some (l.getD (i - 1) []):=by unfold ahead;rw [if_neg h0]
    have hls:=sgeq 3 false (l.getD (i - 1) []) x
    rw [ha]
    generalize l.getD (i - 1) []=y at hix hls
    show Tot (fun z=>z=(Res.ret (.bool (true && decide (y<x) && risT (some x) t && decide ((l.length:Int)≤most))),A)) _
    cases hlt:decide (y<x)
    ·rw [hlt] at hls
     (repeat' first|(with_reducible first|apply qac|apply qa3|apply qaz|apply qa1|apply qai|apply qag (b:=true)|apply qag (b:=false)|apply qaa (b:=true)|apply qaa (b:=false)|apply qap|apply qbd|apply qba)|((conv=>arg 2;arg 1;simp (disch:=first|omega|assumption) only [qaq,qak,Option.map_some,qb9,qa5,qax,qav,qa4,qb5,Bool.not_true,Bool.not_false,qa6,qa9,qa8,qbc,qat,qa0,cell_str,List.length_map,hx,r48,hn,hix,hls]);(with_reducible first|apply qac|apply qaa (b:=true)|(apply qas;omega)|(apply qbx;omega))))
     ((try conv=>arg 2;simp only [qae,qaw,qar,qad,List.take_length,qau,qab,qah]);refine qal ?_)
     simp
    ·rw [hlt] at hls
     (repeat' first|(with_reducible first|apply qac|apply qa3|apply qaz|apply qa1|apply tp_gk|apply qag (b:=true)|apply qag (b:=false)|apply qaa (b:=true)|apply qaa (b:=false)|apply qap|apply qan|apply qbd|apply qba)|((conv=>arg 2;arg 1;simp (disch:=first|omega|assumption) only [qaq,qak,qbe,qb9,qa5,qar,qav,qa4,qb5,Bool.not_true,qa6,qa9,qa8,qbc,qat,qa0,cell_str,List.length_map,hx,r48,hn,hix,hls]);(with_reducible first|apply qac|apply qbg|apply qaa (b:=false)|(apply qas;omega)|(apply qbx;omega))))
     (refine qay ?_;(conv=>lhs;simp only [qao,qbr,List.take_length,List.map_nil,qa6,qa8]);rw [hsh];simpa using hih)
theorem s103:f103 (encL 1 (l.map .str)) (.int .i64 most) A=some (.ret (.bool (namesT l most)),A):=by
 have:=s103_loop l hl hs most A l 0 rfl (by omega)
 unfold f103 n103;dsimp only
 refine qbb ?_
 skip
 (refine qay ?_;(conv=>lhs;simp only []);exact this)
end
end Go.Vm.Rx

namespace Go.Vm.Rx
open Go.Proofs
set_option maxRecDepth 100000
set_option maxHeartbeats 0
attribute [local irreducible] bn mp ifb D.bool? D.int? D.str? D.agg? D.cell? D.cellsT ofCells guardB layCells eqOf binO unD convO sliceStrO sliceSlO fieldAddrO fieldO indexAddrO indexStrO assertV extractD nilCheckD lenStrO lenSlO minMaxD loadO storeO boxO sliceParts makeO appendO litO tokO deferO bytesConvO panicD applyD Kept leaveD D.shut D.shutL guardP leavesD shV recBusy recSet closeSt endX seqCall seqI exS leaveM cAt cAtI D.canon D.canonL Res.elim allocO sLen sApp sTake gkM gsM gwM clM jn Env.g yldB mapGetO mapPutO mapEntryO entryStoreO mapDelO makeMapR mapLenO keyK eqKS
variable (M:Mode) (call:CallT) (dcall:DcallT) (lp:LpT) (a0 a1 a2 a3 a4:D) (A A0 A1 A2:St) (e:Env)
noncomputable def n169:Nf (bodyR M Tryz.prog rxHint kk call dcall lp 169 [a0] A):=⟨_,by conv=>lhs;reduce;simp only [go_sem,Int.reduceOfNat,Int.reduceNegSucc,UInt8.reduceOfNat]⟩
noncomputable def f169:ORes:=(n169 mL (Run Tryz.prog rxA) (Dcall Tryz.prog rxA) (LP Tryz.prog rxA) a0 A).1
theorem r169:Run Tryz.prog rxA 169 [a0] A=f169 a0.canon A:=(qbk Tryz.prog rxA kk rfl rfl (okf rfl) _ A).trans (n169 ..).2
noncomputable def n180:Nf (bodyR M Tryz.prog rxHint kk call dcall lp 180 [a0] A):=⟨_,by conv=>lhs;reduce;simp only [go_sem,Int.reduceOfNat,Int.reduceNegSucc,UInt8.reduceOfNat]⟩
noncomputable def f180:ORes:=(n180 mL (Run Tryz.prog rxA) (Dcall Tryz.prog rxA) (LP Tryz.prog rxA) a0 A).1
theorem r180:Run Tryz.prog rxA 180 [a0] A=f180 a0.canon A:=(qbk Tryz.prog rxA kk rfl rfl (okf rfl) _ A).trans (n180 ..).2
end Go.Vm.Rx

/- How numbers,texts and links are ordered: both texts. -/
namespace Go.Vm.Rx
open Go Go.Proofs P
set_option maxRecDepth 10000
set_option maxHeartbeats 4000000
theorem sgtr (n:Nat) (b:Bool) (x s:Str):binO .gtr n b (.str x) (.str s)=some (.bool (decide (s<x))):=by
 show some (D.bool (!(Op.bytesLess x s || x == s)))=_
 rw [Go.Proofs.bytesLess_eq]
 congr 2
 rw [Bool.eq_iff_iff]
 simp only [Bool.not_eq_true',Bool.or_eq_false_iff,decide_eq_false_iff_not,beq_eq_false_iff_ne,ne_eq,decide_eq_true_eq]
 constructor
 ·rintro ⟨h1,h2⟩
  rcases Std.lt_trichotomy (α:=List UInt8) x s with h|h|h
  ·exact absurd h h1
  ·exact absurd h h2
  ·exact h
 ·intro h
  exact ⟨fun h1=>List.lt_irrefl _ (List.lt_trans h h1),fun h1=>by subst h1;exact List.lt_irrefl _ h⟩
def cmpI (a b:Int):Int:=if a<b then -1 else if b<a then 1 else 0
def cmpS (a b:Str):Int:=if a<b then -1 else if b<a then 1 else 0
theorem s169 (a:Str) (A:St):f169 (.str a) A=some (.ret (.bool false),A):=by
 unfold f169 n169;dsimp only
 refine qbb ?_
 (repeat' first|(with_reducible first|apply qai|(apply tot_sneq_t;first|assumption|with_reducible rfl)))
 ((try conv=>arg 2;simp only [qae,qaw,qar,qad,List.take_length,qau,qab,qah]);refine qal ?_)
 rfl
theorem s180 (a:Int) (A:St):f180 (.int .i64 a) A=some (.ret (.bool false),A):=by
 unfold f180 n180;dsimp only
 refine qbb ?_
 (repeat' first|(with_reducible first|apply qai|(apply tot_neq_t;omega)))
 ((try conv=>arg 2;simp only [qae,qaw,qar,qad,List.take_length,qau,qab,qah]);refine qal ?_)
 rfl
theorem s160 (a b:Int) (A:St):f160 (.int .i64 a) (.int .i64 b) A=some (.ret (.int .i64 (cmpI a b)),A):=by
 have h1:=fun a A=>s180 a A
 unfold f160 n160 cmpI;dsimp only
 refine qbb ?_
 by_cases h:a<b
 ·rw [if_pos h]
  (repeat' first|(with_reducible first|apply qa1|apply qai|apply qaa (b:=true)|apply qaa (b:=false)|apply qap|apply qan|(apply qas;omega))|((conv=>arg 2;arg 1;simp (disch:=first|omega|assumption) only [qaj,r180,h1]);(with_reducible apply qac)))
  ((try conv=>arg 2;simp only [qae,qao,qar,qad,List.take_length,qaj,qab,qah]);refine qal ?_)
  rfl
 ·rw [if_neg h]
  by_cases h2:b<a
  ·rw [if_pos h2]
   (repeat' first|(with_reducible first|apply qa1|apply qai|apply qaa (b:=true)|apply qaa (b:=false)|apply qap|apply qan|(apply qa2;omega)|(apply qbx;omega))|((conv=>arg 2;arg 1;simp (disch:=first|omega|assumption) only [qaj,r180,h1]);(with_reducible apply qac)))
   ((try conv=>arg 2;simp only [qae,qao,qar,qad,List.take_length,qaj,qab,qah]);refine qal ?_)
   rfl
  ·rw [if_neg h2]
   (repeat' first|(with_reducible first|apply qa1|apply qai|apply qaa (b:=false)|apply qan|(apply qa2;omega)|(apply qbo;omega))|((conv=>arg 2;arg 1;simp (disch:=first|omega|assumption) only [qaj,r180,h1]);(with_reducible apply qac)))
   ((try conv=>arg 2;simp only [qae,qao,qar,qad,List.take_length,qaj,qab,qah]);refine qal ?_)
   rfl
theorem s161 (a b:Str) (A:St):f161 (.str a) (.str b) A=some (.ret (.int .i64 (cmpS a b)),A):=by
 have h1:=fun a A=>s169 a A
 have e1:=slss 3 false a b
 have e2:=sgtr 3 false a b
 unfold f161 n161 cmpS;dsimp only
 refine qbb ?_
 by_cases h:a<b
 ·rw [if_pos h]
  rw [decide_eq_true h] at e1
  (repeat' first|(with_reducible first|apply qa1|apply qai|apply qaa (b:=true)|apply qaa (b:=false)|apply qap|apply qan)|((conv=>arg 2;arg 1;simp (disch:=first|omega|assumption) only [qat,r169,h1,e1]);(with_reducible apply qac)))
  ((try conv=>arg 2;simp only [qae,qao,qar,qad,List.take_length,qaj,qab,qah]);refine qal ?_)
  rfl
 ·rw [if_neg h]
  rw [decide_eq_false h] at e1
  by_cases h2:b<a
  ·rw [if_pos h2]
   rw [decide_eq_true h2] at e2
   (repeat' first|(with_reducible first|apply qa1|apply qai|apply qaa (b:=true)|apply qaa (b:=false)|apply qap|apply qan)|((conv=>arg 2;arg 1;simp (disch:=first|omega|assumption) only [qat,r169,h1,e1,e2]);(with_reducible apply qac)))
   ((try conv=>arg 2;simp only [qae,qao,qar,qad,List.take_length,qaj,qab,qah]);refine qal ?_)
   rfl
  ·rw [if_neg h2]
   rw [decide_eq_false h2] at e2
   (repeat' first|(with_reducible first|apply qa1|apply qai|apply qaa (b:=false)|apply qan)|((conv=>arg 2;arg 1;simp (disch:=first|omega|assumption) only [qat,r169,h1,e1,e2]);(with_reducible apply qac)))
   ((try conv=>arg 2;simp only [qae,qao,qar,qad,List.take_length,qaj,qab,qah]);refine qal ?_)
   rfl
def orT:List Int→Int
 | []=>0
 | n::t=>if n=0 then orT t else n
theorem plainI (l:List Int):PlainL (l.map (D.int .i64)):=PlainL.map (fun s=>⟨fun _=>rfl,rfl⟩) l
theorem int_shut (l:List Int) (n m:Nat):(encL n (l.map (D.int .i64))).shut m=encL n (l.map (D.int .i64)):=(encL_plain (plainI l) n).shut m
theorem s159_loop (l:List Int) (hl:l.length≤100000000) (A:St):∀ (t:List Int) (i:Nat),l.drop i=t→i≤l.length →
  LP Tryz.prog rxA 159 [0,1,0,1,1] [A] (Env.mk (sp [(3,.int .i64 0),(2,encL 1 (l.map (D.int .i64))),(0,.int .i64 (l.length:Nat)),(0,.int .i64 (i:Nat))] 9) []) A=some (.ret (.int .i64 (orT t)),A):=by
 have hsh:=int_shut l 1
 intro t
 induction t with
 | nil =>
  intro i ht hi
  have h1:=qb1 ht
  refine qbb (qbh (q159_0 ..) ?_)
  unfold n159_0;dsimp only
  (repeat' first|(with_reducible first|apply qai|apply qaa (b:=false)|apply qan)|((conv=>arg 2;arg 1;simp only [Option.map_some,qax,qa6,qa9,qa8]);(with_reducible first|apply qac|(apply qa2;omega))))
  ((try conv=>arg 2;simp only [qae,qao,qar,qad,List.take_length,qaj,qab,qah]);refine qal ?_)
  rfl
 | cons x t ih =>
  intro i ht hi
  have h1:=qbz ht
  have hx:=qb6 (f:=D.int .i64) ht 1 false .i64
  have hih:=ih (i+1) (qbi ht) (by omega)
  refine qbb (qbh (q159_0 ..) ?_)
  unfold n159_0;dsimp only
  unfold orT
  by_cases h0:x=0
  ·rw [if_pos h0]
   (repeat' first|(with_reducible first|apply qa3|apply tp_gk|apply qaa (b:=true)|apply qaa (b:=false)|apply qap|apply qan)|((conv=>arg 2;arg 1;simp (disch:=first|omega|assumption) only [qbe,qa5,qar,qav,qa4,cell_int,qa6,qa9,qa8,qbc,hx]);(with_reducible first|apply qac|apply qbg|(apply qas;omega)|(apply tot_neq_t;omega))))
   (refine qay ?_;(conv=>lhs;simp only [qao,qbr,List.take_length,List.map_nil,qa6,qa9,qa8]);rw [hsh];exact hih)
  ·rw [if_neg h0]
   (repeat' first|(with_reducible first|apply qa3|apply qai|apply qaa (b:=true)|apply qap)|((conv=>arg 2;arg 1;simp (disch:=first|omega|assumption) only [Option.map_some,qax,qav,qa4,cell_int,qa6,qa9,qa8,qbc,hx]);(with_reducible first|apply qac|(apply qas;omega)|(apply tot_neq_f;omega))))
   ((try conv=>arg 2;simp only [qae,qao,qar,qad,List.take_length,qaj,qab,qah]);refine qal ?_)
   rfl
theorem s159 (l:List Int) (hl:l.length≤100000000) (A:St):f159 (encL 1 (l.map (D.int .i64))) A=some (.ret (.int .i64 (orT l)),A):=by
 have:=s159_loop l hl A l 0 rfl (by omega)
 unfold f159 n159;dsimp only
 refine qbb ?_
 (repeat' first|((conv=>arg 2;arg 1;simp only [qa0,List.length_map]);(with_reducible apply qac)))
 (refine qay ?_;(conv=>lhs;simp only []);exact this)
def ordT (y x:Lnk):Int:=orT [cmpI y.a x.a,cmpS y.p x.p]
theorem ordT_bef (y x:Lnk):0≤ordT y x↔y.bef x=false:=by
 unfold ordT Lnk.bef
 simp only [orT,cmpI,cmpS,decide_eq_false_iff_not]
 by_cases h1:y.a<x.a
 ·simp [h1]
 ·by_cases h2:x.a<y.a
  ·simp [h1,h2];omega
  ·have h3:y.a=x.a:=by omega
   by_cases h4:y.p<x.p
   ·simp [h3,h4]
   ·by_cases h5:x.p<y.p
    ·simp [h3,h4,h5]
    ·simp [h3,h4,h5]
theorem s127 (y x:Lnk) (A:St):f127 (encLnk y) (encLnk x) A=some (.ret (.int .i64 (ordT y x)),A):=by
 have h1:=fun a b A=>s160 a b A
 have h2:=fun a b A=>s161 a b A
 have h3:=fun A=>s159 [cmpI y.a x.a,cmpS y.p x.p] (by simp) A
 have bx:=fun x A=>(by simp [boxO,cellLnk,allocD]:boxO true (encLnk x) A=some (.ref A.length 0,A++[.cells (lnkC x)]))
 unfold f127 n127 ordT;dsimp only
 refine qbb ?_
 have h4:∀ A,Run Tryz.prog rxA 159 [D.sl .full 1 [.int .i64 (cmpI y.a x.a),.int .i64 (cmpS y.p x.p)]] A=some (.ret (.int .i64 (orT [cmpI y.a x.a,cmpS y.p x.p])),A):=fun A=>by
  rw [r159]
  exact h3 A
 (repeat' first|(with_reducible first|apply qa3|apply qa1|apply tp_gs0|apply tp_gs1|apply qai)|((conv=>arg 2;arg 1;simp (disch:=first|omega|assumption) only [Option.map_some,parts_nil,parts_int,qaf,Nat.zero_add,Nat.add_zero,List.length_append,List.length_cons,List.length_nil,sameAd_refl,qaj,qat,qbs,qbl,qbf,ld_sh,qa7,ldc0,ldcS,Nat.reduceAdd,bx,lnkc0,lnkc1,r160,h1,r161,h2,h4]);(with_reducible first|apply qac|apply qbg)))
 ((try conv=>arg 2;simp (disch:=first|omega|assumption) only [qae,qao,qam,qad,qaj,qab,qah,List.take_left']);refine qal ?_)
 rfl
theorem s131 (y x:Lnk) (A:St):f131 (encLnk y) (encLnk x) A=some (.ret (.bool (y.bef x)),A):=by
 have bx:=fun x A=>(by simp [boxO,cellLnk,allocD]:boxO true (encLnk x) A=some (.ref A.length 0,A++[.cells (lnkC x)]))
 have e1:=slss 3 false y.p x.p
 unfold f131 n131 Lnk.bef;dsimp only
 refine qbb ?_
 by_cases h:y.a=x.a
 ·have e:decide (y.a<x.a∨y.a=x.a∧y.p<x.p)=decide (y.p<x.p):=by
   rw [decide_eq_decide];constructor
   ·rintro (h1|⟨_,h1⟩)
    ·omega
    ·exact h1
   ·intro h1;exact .inr ⟨h,h1⟩
  rw [e]
  (repeat' first|(with_reducible first|apply qa3|apply qai|apply qaa (b:=false)|apply qan|(apply tot_neq_t;omega))|((conv=>arg 2;arg 1;simp (disch:=first|omega|assumption) only [qaf,Nat.zero_add,Nat.add_zero,List.length_append,List.length_cons,List.length_nil,qbs,qbl,qbf,ld_sh,qa7,ldc0,ldcS,bx,lnkc0,lnkc1,e1]);(with_reducible apply qac)))
  ((try conv=>arg 2;simp (disch:=first|omega|assumption) only [qae,qaw,qam,qad,qau,qab,qah,List.take_left']);refine qal ?_)
  rfl
 ·have e:decide (y.a<x.a∨y.a=x.a∧y.p<x.p)=decide (y.a<x.a):=by
   rw [decide_eq_decide];constructor
   ·rintro (h1|⟨h1,_⟩)
    ·exact h1
    ·exact absurd h1 h
   ·intro h1;exact .inl h1
  rw [e]
  (repeat' first|(with_reducible first|apply qa3|apply qai|apply qaa (b:=true)|apply qap|(apply tot_lss;all_goals intro hsp)|(apply tot_neq_f;omega))|((conv=>arg 2;arg 1;simp (disch:=first|omega|assumption) only [qaf,Nat.zero_add,Nat.add_zero,List.length_append,List.length_cons,List.length_nil,qbs,qbl,qbf,ld_sh,qa7,ldc0,ldcS,bx,lnkc0]);(with_reducible apply qac)))
  all_goals (((try conv=>arg 2;simp (disch:=first|omega|assumption) only [qae,qaw,qam,qad,qau,qab,qah,List.take_left']);refine qal ?_);simp [*])
end Go.Vm.Rx

/- Which links may be: the program's text,with its map of ends. -/
namespace Go.Vm.Rx
open Go Go.Proofs P
set_option maxRecDepth 10000
set_option maxHeartbeats 4000000
def kEnd (e:LEnd):Key:=.a [.int .i64 e.1,.str e.2]
def dEnd (e:LEnd):D:=.agg [.int .i64 e.1,.str e.2]
abbrev ktE:KT:=.a [.int .i64,.str]
def mapS (se:List LEnd):Slot:=.map ktE (se.map kEnd) (se.map fun _=>.int .i64 1) (List.range se.length) se.length
def mapZ (se:List LEnd) (e:LEnd):Slot:=.map ktE (se.map kEnd++[kEnd e]) ((se.map fun _=>.int .i64 1)++[.int .i64 0]) (List.range se.length++[se.length]) (se.length+1)
def mapT (se:List LEnd) (i:Nat):Slot:=.map ktE (se.map kEnd) ((se.map fun _=>D.int .i64 1).set i (.int .i64 2)) (List.range se.length) se.length
theorem kEnd_inj {a b:LEnd} (h:kEnd a=kEnd b):a=b:=by
 obtain ⟨a1,a2⟩:=a;obtain ⟨b1,b2⟩:=b
 simpa [kEnd] using h
theorem findK_no {e:LEnd}:∀ {se:List LEnd},e ∉ se→findK (kEnd e) (se.map kEnd)=none
 | [],_=>rfl
 | x::se,h=>by
  simp only [List.map_cons,findK]
  rw [if_neg fun h2=>h (by rw [kEnd_inj h2];simp),findK_no fun h2=>h (by simp [h2])];rfl
theorem findK_yes {e:LEnd}:∀ {se:List LEnd},e ∈ se→∃ i,findK (kEnd e) (se.map kEnd)=some i∧i<se.length
 | [],h=>by simp at h
 | x::se,h=>by
  simp only [List.map_cons,findK]
  by_cases h2:kEnd x=kEnd e
  ·exact ⟨0,by rw [if_pos h2],by simp⟩
  ·have h3:e ∈ se:=by
    rcases List.mem_cons.1 h with rfl|h
    ·exact absurd rfl h2
    ·exact h
   obtain ⟨i,h4,h5⟩:=findK_yes h3
   exact ⟨i+1,by rw [if_neg h2,h4];rfl,by simp;omega⟩
theorem findK_last {k:Key}:∀ {ks:List Key},findK k ks=none→findK k (ks++[k])=some ks.length
 | [],_=>by simp [findK]
 | x::ks,h=>by
  simp only [findK] at h
  split at h
  ·cases h
  ·rename_i h2
   simp only [List.cons_append,findK,if_neg h2,Option.map_eq_none_iff] at h ⊢
   rw [findK_last h];rfl
theorem findB_at:∀ (n m i:Nat),i<n→findB (m+i) (List.range' m n)=some i
 | 0,m,i,h=>by omega
 | n+1,m,i,h=>by
  rw [List.range'_succ]
  unfold findB
  cases i with
  | zero=>rw [if_pos (by omega)]
  | succ i =>
   rw [if_neg (by omega),show m+(i+1)=m+1+i from by omega,findB_at n (m+1) i (by omega)];rfl
theorem findB_range {n i:Nat} (h:i<n):findB i (List.range n)=some i:=by
 have:=findB_at n 0 i h
 rwa [Nat.zero_add,← List.range_eq_range'] at this
section
variable {A L:St} {c:Slot} {se:List LEnd} {e:LEnd}
theorem get_at (m:Slot):(A++c::m::L)[A.length+1]?=some m:=by rw [get_sh];rfl
theorem set_at (m m':Slot):(A++c::m::L).set (A.length+1) m'=A++c::m'::L:=by
 rw [List.set_append_right _ _ (by omega)];simp
theorem get_miss (he:e ∉ se):mapGetO ktE (.int .i64 0) false (.mp (A.length+1)) (.agg [.int .i64 e.1,.str e.2]) (A++c::mapS se::L)=some (.int .i64 0):=by
 show (Option.bind ((A++c::mapS se::L)[A.length+1]?) fun s=>(mapVal ktE (kEnd e) s).map (lookV (.int .i64 0) false))=_
 rw [get_at]
 show ((match findK (kEnd e) (se.map kEnd) with|none=>some none|some i=>_):Option (Option D)).map _=_
 rw [findK_no he];rfl
theorem ent_miss (he:e ∉ se):mapEntryO ktE (.int .i64 0) (.mp (A.length+1)) (.agg [.int .i64 e.1,.str e.2]) (A++c::mapS se::L)=some (.tup [.int .i64 0,.int .i64 (se.length:Nat)],A++c::mapZ se e::L):=by
 show onMap (.mp (A.length+1)) (A++c::mapS se::L) (fun kt' ks vs bs c=>if kt'=ktE then (match findK (kEnd e) ks with|some i=>_|none=>_) else none)=_
 unfold onMap
 dsimp only
 rw [get_at]
 simp only [Option.bind_some,mapS,if_true,findK_no he,Option.map_some]
 rw [set_at]
 rfl
theorem sto_miss:entryStoreO (.mp (A.length+1)) (.int .i64 (se.length:Nat)) (.int .i64 1) (A++c::mapZ se e::L)=some (.tup [],A++c::mapS (se++[e])::L):=by
 unfold entryStoreO onMap
 dsimp only [D.int?,Option.bind_some]
 rw [get_at]
 have h:findB se.length (List.range se.length++[se.length])=some se.length:=by
  rw [← List.range_succ];exact findB_range (by omega)
 simp only [Option.bind_some,mapZ,Int.toNat_natCast,h,Option.map_some]
 rw [if_pos (by omega)]
 simp only [Option.map_some]
 rw [set_at]
 simp only [mapS,List.map_append,List.map_cons,List.map_nil,List.length_append,List.length_cons,List.length_nil,Nat.zero_add,List.range_succ,undefD]
 rw [List.set_append_right _ _ (by simp)]
 simp
theorem get_in (he:e ∈ se):mapGetO ktE (.int .i64 0) false (.mp (A.length+1)) (.agg [.int .i64 e.1,.str e.2]) (A++c::mapS se::L)=some (.int .i64 1):=by
 obtain ⟨i,h1,h2⟩:=findK_yes he
 show (Option.bind ((A++c::mapS se::L)[A.length+1]?) fun s=>(mapVal ktE (kEnd e) s).map (lookV (.int .i64 0) false))=_
 rw [get_at]
 simp only [Option.bind_some,mapVal,mapS,if_true,h1]
 rw [List.getElem?_map,List.getElem?_eq_getElem h2]
 rfl
theorem ent_in {i:Nat} (h1:findK (kEnd e) (se.map kEnd)=some i) (h2:i<se.length):mapEntryO ktE (.int .i64 0) (.mp (A.length+1)) (.agg [.int .i64 e.1,.str e.2]) (A++c::mapS se::L)=some (.tup [.int .i64 1,.int .i64 (i:Nat)],A++c::mapS se::L):=by
 show onMap (.mp (A.length+1)) (A++c::mapS se::L) (fun kt' ks vs bs c=>if kt'=ktE then (match findK (kEnd e) ks with|some i=>_|none=>_) else none)=_
 unfold onMap
 dsimp only
 rw [get_at]
 have h3:(se.map fun _=>D.int .i64 1)[i]?=some (.int .i64 1):=by rw [List.getElem?_map,List.getElem?_eq_getElem h2];rfl
 have h4:(List.range se.length)[i]?=some i:=by rw [List.getElem?_range h2]
 simp only [Option.bind_some,mapS,if_true,h1,h3,h4,Option.map_some]
 rw [show (Slot.map (KT.a [AK.int .i64,AK.str]) (se.map kEnd) (se.map fun _=>D.int .i64 1) (List.range se.length) se.length)=mapS se from rfl]
 simp only [Option.bind_eq_bind,Option.bind_some,Option.pure_def,Option.map_some,set_at]
theorem sto_in {i:Nat} (h2:i<se.length):entryStoreO (.mp (A.length+1)) (.int .i64 (i:Nat)) (.int .i64 2) (A++c::mapS se::L)=some (.tup [],A++c::mapT se i::L):=by
 unfold entryStoreO onMap
 dsimp only [D.int?,Option.bind_some]
 rw [get_at]
 simp only [Option.bind_some,mapS,Int.toNat_natCast,findB_range h2,Option.map_some]
 rw [if_pos (by omega)]
 simp only [Option.map_some]
 rw [set_at]
 rfl
theorem get_two {i:Nat} (h1:findK (kEnd e) (se.map kEnd)=some i) (h2:i<se.length):mapGetO ktE (.int .i64 0) false (.mp (A.length+1)) (.agg [.int .i64 e.1,.str e.2]) (A++c::mapT se i::L)=some (.int .i64 2):=by
 show (Option.bind ((A++c::mapT se i::L)[A.length+1]?) fun s=>(mapVal ktE (kEnd e) s).map (lookV (.int .i64 0) false))=_
 rw [get_at]
 simp only [Option.bind_some,mapVal,mapT,if_true,h1]
 rw [List.getElem?_set_self (by simpa using h2)]
 rfl
theorem get_zero (he:e ∉ se):mapGetO ktE (.int .i64 0) false (.mp (A.length+1)) (.agg [.int .i64 e.1,.str e.2]) (A++c::mapZ se e::L)=some (.int .i64 0):=by
 show (Option.bind ((A++c::mapZ se e::L)[A.length+1]?) fun s=>(mapVal ktE (kEnd e) s).map (lookV (.int .i64 0) false))=_
 rw [get_at]
 have:=findK_last (findK_no he)
 simp only [List.length_map] at this
 simp only [Option.bind_some,mapVal,mapZ,if_true,this]
 rw [List.getElem?_append_right (by simp)]
 simp [lookV]
theorem same_miss (he:e ∉ se):sameAd (.tup [.mp (A.length+1),.agg [.int .i64 e.1,.str e.2],.int .i64 0,.bool false]) (A++c::mapS se::L) (A++c::mapZ se e::L)↔True:=by
 refine iff_true_intro ?_
 show mapGetO ktE (.int .i64 0) false (.mp (A.length+1)) (.agg [.int .i64 e.1,.str e.2]) (A++c::mapS se::L)=mapGetO ktE (.int .i64 0) false (.mp (A.length+1)) (.agg [.int .i64 e.1,.str e.2]) (A++c::mapZ se e::L)
 rw [get_miss he,get_zero he]
theorem kept_map (m m':Slot) (L:St) (h:∀ n,m'.shut n=m'):Kept (A++[c,m]) (A++c::m'::L)↔True:=iff_true_intro (Kept_tail (by simp) fun i hi=>by
 simp only [List.length_cons,List.length_nil] at hi
 rcases (by omega:i=0∨i=1) with rfl|rfl
 ·exact .inl rfl
 ·exact .inr ⟨m',rfl,h _⟩)
theorem kept_map3 (m m' x:Slot) (L:St) (h:∀ n,m'.shut n=m'):Kept (A++[c,m,x]) (A++c::m'::x::L)↔True:=iff_true_intro (Kept_tail (by simp) fun i hi=>by
 simp only [List.length_cons,List.length_nil] at hi
 rcases (by omega:i=0∨i=1∨i=2) with rfl|rfl|rfl
 ·exact .inl rfl
 ·exact .inr ⟨m',rfl,h _⟩
 ·exact .inl rfl)
theorem ones_shut (n:Nat):∀ se:List LEnd,D.shutL n (se.map fun _=>D.int .i64 1)=se.map fun _=>D.int .i64 1
 | []=>rfl
 | x::se=>by simp only [List.map_cons,D.shutL,ones_shut n se,D.shut]
theorem mapS_shut (se:List LEnd) (n:Nat):(mapS se).shut n=mapS se:=by simp only [mapS,Slot.shut,ones_shut]
end
theorem idx_full {l:List LEnd} {k:Nat} {e:LEnd} {t:List LEnd} (h:l.drop k=e::t):indexAddrO 2 true (.sl .full 2 (l.map dEnd)) (.int .i64 (k:Nat))=some (.peek [.int .i64 e.1,.str e.2]):=by
 have h1:=qbz h
 have:=List.drop_eq_getElem_cons h1
 rw [h] at this
 have he:=(List.cons.inj this).1
 simp only [indexAddrO,D.int?,Option.bind_some,Int.toNat_natCast,esOk,beq_self_eq_true,Bool.true_or,and_true]
 rw [if_pos (by omega),List.getElem?_map,List.getElem?_eq_getElem h1,← he]
 rfl
theorem full_shut (l:List LEnd) (n:Nat):(D.sl .full 2 (l.map dEnd)).shut n=.sl .full 2 (l.map dEnd):=by
 have:D.shutL n (l.map dEnd)=l.map dEnd:=(PlainL.map (f:=dEnd) (fun e=>⟨fun _=>rfl,rfl⟩) l).shut n
 simp only [D.shut,this,Own.shut]
theorem dev_at {ds:List Dev} {a:Int} (h0:0≤a) (h:a<ds.length):indexAddrO 3 true (encL 3 (ds.map encDev)) (.int .i64 a)=some (.peek (devC (ds.getD a.toNat ⟨[],[],[]⟩))):=by
 obtain ⟨n,rfl⟩:∃ n:Nat,a=n:=⟨a.toNat,by omega⟩
 have hn:n<ds.length:=by omega
 rw [idx_map hn 3 true .i64,cellDev,Int.toNat_natCast,List.getD_eq_getElem?_getD,List.getElem?_eq_getElem hn]
 rfl
theorem dev_mem {ds:List Dev} {a:Int} (h0:0≤a) (h:a<ds.length):ds.getD a.toNat ⟨[],[],[]⟩ ∈ ds:=by
 have hn:a.toNat<ds.length:=by omega
 rw [List.getD_eq_getElem?_getD,List.getElem?_eq_getElem hn]
 exact List.getElem_mem _
theorem devd2 (d:Dev):(devC d).drop 2=[encL 1 (d.po.map .str)]:=rfl
theorem end_lay (e:LEnd):layCells true 2 0 [.int .i64 0,.str []] (.agg [.int .i64 e.1,.str e.2])=some [.int .i64 e.1,.str e.2]:=rfl
def endsOk (ds:List Dev):List LEnd→List LEnd→Bool
 | _,[]=>true
 | se,e::t=>(!seenT se e && portT ds e.1 e.2) && endsOk ds (se++[e]) t
section
variable (t:Top) (hpo:∀ d,d ∈ t.ds→d.po.length≤64) (hds:t.ds.length≤100000000) (x:Lnk) (A:St)
include hpo hds
theorem links_inner (i:Nat) (hi:i<t.ls.length) (hls:t.ls.length≤100000000) (R:List LEnd→Bool)
  (hout:∀ se,LP Tryz.prog rxA 98 [0,1,0,1,1] [A] (Env.mk (sp [(1,.ref A.length 0),(1,.mp (A.length+1)),(6,encL 4 (t.ls.map encLnk)),(0,.int .i64 (t.ls.length:Nat)),(0,.int .i64 (i+1:Nat))] 96) []) (A++[.cells (topC t),mapS se])=some (.ret (.bool (R se)),A))
  (es:List LEnd) (hel:es.length≤100) (hes:∀ e,e ∈ es→0≤e.1∧e.1<t.ds.length∧e.2.length≤100000000) (se0:List LEnd):∀ (u:List LEnd) (k:Nat) (se:List LEnd),es.drop k=u→k≤es.length →
  LP Tryz.prog rxA 98 [0,1,1,1,0,0,1,1,0,0,1,0,1,1] [(A++[.cells (topC t),mapS se0]),A] (Env.mk (sp [(1,.ref A.length 0),(1,.mp (A.length+1)),(6,encL 4 (t.ls.map encLnk)),(0,.int .i64 (t.ls.length:Nat)),(0,.int .i64 (i:Nat)),(61,.sl .full 2 (es.map dEnd)),(0,.int .i64 (es.length:Nat)),(0,.int .i64 (k:Nat))] 32) []) (A++[.cells (topC t),mapS se,.cells (lnkC x)])=some (.ret (.bool (endsOk t.ds se u && R (se++u))),A):=by
 have hsh:=full_shut es
 have hlsh:=lnks_shut t.ls 4
 have hr2:(D.ref A.length 0).shut (A.length+2)=.ref A.length 0:=shut_ref _ (by omega)
 have hr3:(D.ref A.length 0).shut (A.length+3)=.ref A.length 0:=shut_ref _ (by omega)
 have hm2:(D.mp (A.length+1)).shut (A.length+2)=.mp (A.length+1):=by simp only [D.shut];rw [if_pos (by omega)]
 have hm3:(D.mp (A.length+1)).shut (A.length+3)=.mp (A.length+1):=by simp only [D.shut];rw [if_pos (by omega)]
 intro u
 induction u with
 | nil =>
  intro k se hk hkl
  have h1:=qb1 hk
  have hk0:=fun m L=>kept_map (A:=A) (c:=.cells (topC t)) m (mapS se) L (mapS_shut se)
  refine qbb (qbh (q98_1 ..) ?_)
  unfold n98_1;dsimp only
  have ho:=hout se
  rw [List.append_nil]
  (repeat' first|(with_reducible first|apply tp_gk|apply qaa (b:=false)|apply qan)|((conv=>arg 2;arg 1;simp (disch:=first|omega|assumption) only [qbe,qa5,qa6,qa9,qa8,hk0]);(with_reducible first|apply qac|apply qbg|(apply qa2;omega))))
  refine qay ?_
  conv=>lhs;simp (disch:=first|omega|assumption) only [qao,qbr,List.map_nil,Nat.zero_add,List.length_append,List.length_cons,List.length_nil,qa6,qa9,qa8,Nat.reduceAdd,take_n2,hr2,hm2,hlsh]
  exact ho
 | cons e u ih =>
  intro k se hk hkl
  have h1:=qbz hk
  have hx:=idx_full hk
  obtain ⟨q0,q1,q2⟩:=hes e (drop_mem hk)
  have hda:=dev_at q0 q1
  have hdm:=hpo _ (dev_mem q0 q1)
  have hct:=fun A=>s128 A e.2 q2 (t.ds.getD e.1.toNat ⟨[],[],[]⟩).po (by omega)
  have hpt:portT t.ds e.1 e.2=decide (e.2 ∈ (t.ds.getD e.1.toNat ⟨[],[],[]⟩).po):=rfl
  generalize t.ds.getD e.1.toNat ⟨[],[],[]⟩=dv at hda hdm hct hpt
  have hdv:=devd2 dv
  have hsc:=str_canon dv.po 1
  refine qbb (qbh (q98_1 ..) ?_)
  unfold n98_1;dsimp only
  unfold endsOk
  by_cases hin:e ∈ se
  ·have e1:seenT se e=true:=decide_eq_true hin
   rw [e1]
   obtain ⟨j,j1,j2⟩:=findK_yes hin
   have f1:=fun L=>get_in (A:=A) (L:=L) (c:=.cells (topC t)) hin
   have f2:=fun L=>ent_in (A:=A) (L:=L) (c:=.cells (topC t)) j1 j2
   have f3:=fun L=>sto_in (A:=A) (L:=L) (c:=.cells (topC t)) (se:=se) j2
   have f4:=fun L=>get_two (A:=A) (L:=L) (c:=.cells (topC t)) j1 j2
   (repeat' first|(with_reducible first|apply qac|apply qa3|apply qaz|apply qa1|apply tp_gs0|apply tp_gs1|apply qai|apply qag (b:=true)|apply qaa (b:=true)|apply qap|apply qbq|(apply qbx;omega))|((conv=>arg 2;arg 1;simp (disch:=first|omega|assumption) only [qaq,Option.map_some,qbe,qa5,qax,qav,Nat.zero_add,qbp,ofA2,List.length_append,List.length_cons,List.length_nil,sameAd_refl,qa6,qa9,qa8,qbc,qbs,qbl,qbf,ld_sh,ldc0,ldcS,sto_sh,stoc0,stocS,ext0,extS,Nat.reduceAdd,Int.reduceAdd,hx,end_lay,f1,f2,f3,f4]);(with_reducible first|apply qac|apply qbg|apply qaa (b:=true)|(apply qas;omega))))
   ((try conv=>arg 2;simp (disch:=first|omega|assumption) only [qae,qaw,qam,qad,qau,qab,qah,List.take_left']);refine qal ?_)
   simp
  ·have e1:seenT se e=false:=decide_eq_false hin
   rw [e1,hpt]
   have f1:=fun L=>get_miss (A:=A) (L:=L) (c:=.cells (topC t)) hin
   have f2:=fun L=>ent_miss (A:=A) (L:=L) (c:=.cells (topC t)) hin
   have f3:=fun L=>sto_miss (A:=A) (L:=L) (c:=.cells (topC t)) (se:=se) (e:=e)
   have f4:=fun L=>get_in (A:=A) (L:=L) (c:=.cells (topC t)) (se:=se++[e]) (e:=e) (by simp)
   have f5:=fun L=>same_miss (A:=A) (L:=L) (c:=.cells (topC t)) hin
   have hk3:=fun m L=>kept_map3 (A:=A) (c:=.cells (topC t)) m (mapS (se++[e])) (.cells (lnkC x)) L (mapS_shut (se++[e]))
   have hih:=ih (k+1) (se++[e]) (qbi hk) (by omega)
   rw [List.append_assoc,List.singleton_append] at hih
   cases hp:decide (e.2 ∈ dv.po)
   ·rw [hp] at hct
    (repeat' first|(with_reducible first|apply qa3|apply qaz|apply qa1|apply tp_gs0|apply tp_gs1|apply qai|apply qag (b:=false)|apply qaa (b:=true)|apply qaa (b:=false)|apply qap|apply qba|(apply qbo;omega))|((conv=>arg 2;arg 1;simp (disch:=first|omega|assumption) only [qak,Option.map_some,qbe,qa5,qax,qaf,qbt,qav,qa4,qb3,Nat.zero_add,Nat.add_zero,qbp,ofA2,List.length_append,List.length_cons,List.length_nil,qb5,Bool.not_false,qa6,qa9,qa8,qbc,qat,qbs,qbl,qbf,ld_sh,qa7,ldc0,ldcS,sto_sh,stoc0,stocS,ext0,extS,Nat.reduceAdd,Int.reduceAdd,hx,end_lay,f1,f2,f3,f4,f5,topc1,hda,hdv,hsc,r128,hct]);(with_reducible first|apply qac|apply qbg|apply qaa (b:=true)|(apply qas;omega))))
    ((try conv=>arg 2;simp (disch:=first|omega|assumption) only [qae,qaw,qam,qad,qau,qab,qah,List.take_left']);refine qal ?_)
    simp
   ·rw [hp] at hct
    (repeat' first|(with_reducible first|apply qa3|apply qaz|apply qa1|apply tp_gs0|apply tp_gs1|apply tp_gk|apply qag (b:=false)|apply qaa (b:=true)|apply qaa (b:=false)|apply qap|apply qan|apply qba|(apply qbo;omega))|((conv=>arg 2;arg 1;simp (disch:=first|omega|assumption) only [qak,qbe,qa5,qaf,qbt,qav,qa4,qb3,Nat.zero_add,Nat.add_zero,qbp,ofA2,List.length_append,List.length_cons,List.length_nil,qb5,Bool.not_true,qa6,qa9,qa8,qbc,qat,qbs,qbl,qbf,ld_sh,qa7,ldc0,ldcS,sto_sh,stoc0,stocS,ext0,extS,Nat.reduceAdd,Int.reduceAdd,hx,end_lay,f1,f2,f3,f4,f5,topc1,hda,hdv,hsc,r128,hct,hk3]);(with_reducible first|apply qac|apply qbg|apply qaa (b:=false)|(apply qas;omega))))
    refine qay ?_
    conv=>lhs;simp (disch:=first|omega|assumption) only [qao,qbr,List.map_nil,Nat.zero_add,List.length_append,List.length_cons,List.length_nil,qa6,qa9,qa8,Nat.reduceAdd,take_n3,hr3,hm3,hlsh,hsh]
    simpa using hih
end
end Go.Vm.Rx

/- Which links may be: the program's text. -/
namespace Go.Vm.Rx
open Go Go.Proofs P
set_option maxRecDepth 10000
set_option maxHeartbeats 4000000
def aheadL (l:List Lnk) (i:Nat):Option Lnk:=if i=0 then none else l[i - 1]?
theorem aheadL_succ {l t:List Lnk} {i:Nat} {x:Lnk} (h:l.drop i=x::t):aheadL l (i+1)=some x:=by
 unfold aheadL
 have h1:=qbz h
 have:=List.drop_eq_getElem_cons h1
 rw [h] at this
 rw [if_neg (by omega),Nat.add_sub_cancel,List.getElem?_eq_getElem h1,(List.cons.inj this).1]
theorem lnk_ahead {l:List Lnk} {i:Nat} (h0:i≠0) (h:i<l.length):∃ y,aheadL l i=some y∧y ∈ l∧indexAddrO 4 true (encL 4 (l.map encLnk)) (.int .i64 ((i:Int) - 1))=some (.peek (lnkC y)):=by
 have e:((i:Int) - 1)=((i - 1:Nat):Int):=by omega
 have hlt:i - 1<l.length:=by omega
 refine ⟨l[i - 1],by unfold aheadL;rw [if_neg h0,List.getElem?_eq_getElem hlt],List.getElem_mem _, ?_⟩
 rw [e,idx_map hlt,cellLnk];rfl
theorem lnk_lay (x:Lnk):layCells true 4 0 [.int .i64 0,.str [],.int .i64 0,.str []] (encLnk x)=some (lnkC x):=rfl
theorem ends_two {ds:List Dev} {n:Int} {x:Lnk} (h:shapeT n x=true) (se:List LEnd):endsOk ds se [(x.a,x.p),(x.b,x.q)]=((!seenT se (x.a,x.p) && portT ds x.a x.p) && (!seenT se (x.b,x.q) && portT ds x.b x.q)):=by
 simp only [endsOk,Bool.and_true]
 have:seenT (se++[(x.a,x.p)]) (x.b,x.q)=seenT se (x.b,x.q):=by
  unfold seenT
  rw [decide_eq_decide]
  simp only [List.mem_append,List.mem_singleton,Prod.mk.injEq]
  constructor
  ·rintro (h1|⟨h1,h2⟩)
   ·exact h1
   ·unfold shapeT at h
    simp only [decide_eq_true_eq] at h
    have:=h.2.2.2 h1.symm
    rw [h2] at this
    exact absurd this (List.lt_irrefl _)
  ·exact .inl
 rw [this]
section
variable (t:Top) (hok:TopOk t) (hpo:∀ d,d ∈ t.ds→d.po.length≤64) (A:St)
include hok hpo
theorem links_loop:∀ (u:List Lnk) (i:Nat) (se:List LEnd),t.ls.drop i=u→i≤t.ls.length →
  LP Tryz.prog rxA 98 [0,1,0,1,1] [A] (Env.mk (sp [(1,.ref A.length 0),(1,.mp (A.length+1)),(6,encL 4 (t.ls.map encLnk)),(0,.int .i64 (t.ls.length:Nat)),(0,.int .i64 (i:Nat))] 96) []) (A++[.cells (topC t),mapS se])=some (.ret (.bool (lnksT t.ds (aheadL t.ls i) se u && decide (t.ls.length≤4096))),A):=by
 have hlsh:=lnks_shut t.ls 4
 have hll:=hok.ls.1
 have hdl:=hok.ds.1
 intro u
 induction u with
 | nil =>
  intro i se ht hi
  have h1:=qb1 ht
  refine qbb (qbh (q98_0 ..) ?_)
  unfold n98_0;dsimp only
  (repeat' first|(with_reducible first|apply qa3|apply qai|apply qaa (b:=false)|apply qan|(apply tot_leq;all_goals intro hsp))|((conv=>arg 2;arg 1;simp (disch:=first|omega|assumption) only [Option.map_some,qax,qaf,Nat.zero_add,qa6,qa9,qa8,qa0,qa7,ldc0,List.length_map,topc2]);(with_reducible first|apply qac|(apply qa2;omega))))
  all_goals (((try conv=>arg 2;simp (disch:=first|omega|assumption) only [qae,qaw,qam,qad,qau,qab,qah,List.take_left']);refine qal ?_);simp [lnksT, *]<;>omega)
 | cons x u ih =>
  intro i se ht hi
  have h1:=qbz ht
  have hx:=qb6 (f:=encLnk) ht 4 true .i64
  have hah:=aheadL_succ ht
  have hih:=fun se=>ih (i+1) se (qbi ht) (by omega)
  rw [hah] at hih
  obtain ⟨hp1,hp2⟩:=hok.ls.2 x (drop_mem ht)
  have hge:=sgeq 3 false x.p x.q
  rw [lnksT_cons]
  refine qbb (qbh (q98_0 ..) ?_)
  unfold n98_0;dsimp only
  by_cases g1:x.a<0
  ·have e:lnkT t.ds (aheadL t.ls i) se x=false:=by
    unfold lnkT shapeT;rw [decide_eq_false (by omega)];simp
   rw [e]
   (repeat' first|(with_reducible first|apply qac|apply qa3|apply qaz|apply qa1|apply qai|apply qag (b:=true)|apply tot_gbn|apply qaa (b:=true)|apply qap|apply qan|apply qbq|(apply qas;omega))|((conv=>arg 2;arg 1;simp (disch:=first|omega|assumption) only [qaq,Option.map_some,qax,qaf,qav,Nat.zero_add,Nat.add_zero,qbp,List.length_append,List.length_cons,List.length_nil,qa6,qa9,qa8,qbc,qbs,qbl,qbf,ld_sh,ldc0,ldcS,sto_sh,stoc0,stocS,Nat.reduceAdd,hx,cellLnk,lnkcA,lnk_lay,lnkc0]);(with_reducible first|apply qac|apply qag (b:=true)|apply qaa (b:=true)|(apply qas;omega))))
   ((try conv=>arg 2;simp (disch:=first|omega|assumption) only [qae,qaw,qam,qad,qau,qab,qah,List.take_left']);refine qal ?_)
   simp
  ·by_cases g2:x.b<x.a
   ·have e:lnkT t.ds (aheadL t.ls i) se x=false:=by
     unfold lnkT shapeT;rw [decide_eq_false (by omega)];simp
    rw [e]
    (repeat' first|(with_reducible first|apply qac|apply qa3|apply qaz|apply qa1|apply qai|apply qag (b:=false)|apply tot_gbn|apply qaa (b:=true)|apply qaa (b:=false)|apply qap|apply qan|apply qbq|apply qba|(apply qa2;omega)|(apply qbx;omega))|((conv=>arg 2;arg 1;simp (disch:=first|omega|assumption) only [qaq,qak,Option.map_some,qax,qaf,qav,Nat.zero_add,Nat.add_zero,qbp,List.length_append,List.length_cons,List.length_nil,qa6,qa9,qa8,qbc,qbs,qbl,qbf,ld_sh,ldc0,ldcS,sto_sh,stoc0,stocS,Nat.reduceAdd,hx,cellLnk,lnkcA,lnk_lay,lnkc0,lnkc2]);(with_reducible first|apply qac|apply qag (b:=true)|apply qaa (b:=true)|(apply qas;omega))))
    ((try conv=>arg 2;simp (disch:=first|omega|assumption) only [qae,qaw,qam,qad,qau,qab,qah,List.take_left']);refine qal ?_)
    simp
   ·by_cases g3:(t.ds.length:Int)≤x.b
    ·have e:lnkT t.ds (aheadL t.ls i) se x=false:=by
      unfold lnkT shapeT;rw [decide_eq_false (by omega)];simp
     rw [e]
     (repeat' first|(with_reducible first|apply qac|apply qa3|apply qaz|apply qa1|apply qai|apply qag (b:=false)|apply tot_gbn|apply qaa (b:=true)|apply qaa (b:=false)|apply qap|apply qan|apply qbq|apply qba|(apply qa2;omega)|(apply qbo;omega)|(apply tot_geq_t;omega))|((conv=>arg 2;arg 1;simp (disch:=first|omega|assumption) only [qaq,qak,Option.map_some,qax,qaf,qav,Nat.zero_add,Nat.add_zero,qbp,List.length_append,List.length_cons,List.length_nil,qa6,qa9,qa8,qbc,qa0,qbs,qbl,qbf,ld_sh,qa7,ldc0,ldcS,sto_sh,stoc0,stocS,List.length_map,Nat.reduceAdd,hx,cellLnk,lnkcA,lnk_lay,lnkc0,lnkc2,topc1]);(with_reducible first|apply qac|apply qag (b:=true)|apply qag (b:=false)|apply qaa (b:=true)|apply qaa (b:=false)|(apply qas;omega))))
     ((try conv=>arg 2;simp (disch:=first|omega|assumption) only [qae,qaw,qam,qad,qau,qab,qah,List.take_left']);refine qal ?_)
     simp
    ·have hes:∀ e,e ∈ [(x.a,x.p),(x.b,x.q)]→0≤e.1∧e.1<t.ds.length∧e.2.length≤100000000:=by
      intro e he
      simp only [List.mem_cons,List.not_mem_nil,or_false] at he
      rcases he with rfl|rfl
      ·exact ⟨by dsimp only;omega,by dsimp only;omega,hp1⟩
      ·exact ⟨by dsimp only;omega,by dsimp only;omega,hp2⟩
     have key:shapeT t.ds.length x=true→befO (aheadL t.ls i) x=true→(lnkT t.ds (aheadL t.ls i) se x && lnksT t.ds (some x) (se++[(x.a,x.p),(x.b,x.q)]) u && decide (t.ls.length≤4096))=(endsOk t.ds se [(x.a,x.p),(x.b,x.q)] && (lnksT t.ds (some x) (se++[(x.a,x.p),(x.b,x.q)]) u && decide (t.ls.length≤4096))):=by
      intro q1 q2
      rw [ends_two q1]
      unfold lnkT
      rw [q1,q2]
      simp only [Bool.true_and,Bool.and_assoc]
     have nob:befO (aheadL t.ls i) x=false→lnkT t.ds (aheadL t.ls i) se x=false:=by
      intro q;unfold lnkT;rw [q];simp
     by_cases g4:x.a=x.b
     ·by_cases g5:x.p<x.q
      ·rw [decide_eq_true g5] at hge
       have hsp:shapeT t.ds.length x=true:=by unfold shapeT;exact decide_eq_true (by exact ⟨by omega,by omega,by omega,fun _=>g5⟩)
       by_cases h0:i=0
       ·subst h0
        rw [key hsp rfl]
        have hin:=links_inner t hpo hdl x A 0 h1 hll (fun se=>lnksT t.ds (some x) se u && decide (t.ls.length≤4096)) hih [(x.a,x.p),(x.b,x.q)] (by simp) hes se [(x.a,x.p),(x.b,x.q)] 0 se rfl (by simp)
        (repeat' first|(with_reducible first|apply qac|apply tp_bnbn|apply qa3|apply qaz|apply qa1|apply qag (b:=true)|apply qag (b:=false)|apply qaa (b:=true)|apply qaa (b:=false)|apply qap|apply qan|apply qbd|apply qbj|apply qba|(apply qa2;omega)|(apply qbo;omega)|(apply qb8;omega)|(apply qbn;omega))|((conv=>arg 2;arg 1;simp (disch:=first|omega|assumption) only [qaq,qak,Option.map_some,qaf,qav,Nat.zero_add,Nat.add_zero,qbp,lay_int,lay_s,List.length_append,List.length_cons,List.length_nil,Bool.not_true,qa6,qa9,qa8,qbc,qa0,qbs,qbl,qbf,ld_sh,qa7,ldc0,ldcS,sto_sh,stoc0,stocS,lay_str,List.length_map,Nat.reduceAdd,hx,cellLnk,lnkcA,lnk_lay,lnkc0,lnkc1,lnkc2,lnkc3,topc1,hge]);(with_reducible first|apply qac|apply qag (b:=false)|apply qaa (b:=false)|(apply qas;omega)|(apply qbo;omega))))
        refine qay (Eq.trans ?_ hin)
        conv=>lhs;simp only [bn_some,lenSl_sl,qa6,qa9,qa8]
        rfl
       ·obtain ⟨y,ha,hym,hix⟩:=lnk_ahead h0 h1
        have hor:=fun A=>s127 y x A
        have hob:=ordT_bef y x
        have hcy:∀ y,(encLnk y).canon=encLnk y:=fun y=>(plainLnk y).canon
        have hbo:befO (aheadL t.ls i) x=y.bef x:=by rw [ha];rfl
        cases hb:y.bef x
        ·have h0':=hob.2 hb
         rw [nob (hbo.trans hb)]
         (repeat' first|(with_reducible first|apply qac|apply qa3|apply qaz|apply qa1|apply qai|apply qag (b:=true)|apply qag (b:=false)|apply qaa (b:=true)|apply qaa (b:=false)|apply qap|apply qbd|apply qba|(apply qa2;omega)|(apply qbo;omega)|(apply tot_geq_t;omega)|(apply qb8;omega)|(apply qbn;omega))|((conv=>arg 2;arg 1;simp (disch:=first|omega|assumption) only [qaq,qak,Option.map_some,qb9,qa5,qax,qaf,qav,Nat.zero_add,Nat.add_zero,qbp,List.length_append,List.length_cons,List.length_nil,Bool.not_true,qa6,qa9,qa8,qbc,qa0,qbs,qbl,qbf,ld_sh,qa7,ldc0,ldcS,sto_sh,stoc0,stocS,List.length_map,Nat.reduceAdd,hx,cellLnk,lnkcA,lnk_lay,lnkc0,lnkc1,lnkc2,lnkc3,topc1,topc2,hge,hix,hcy,r127,hor]);(with_reducible first|apply qac|apply qag (b:=false)|apply qaa (b:=true)|apply qaa (b:=false)|(apply qas;omega)|(apply qbx;omega))))
         ((try conv=>arg 2;simp (disch:=first|omega|assumption) only [qae,qaw,qam,qad,qau,qab,qah,List.take_left']);refine qal ?_)
         simp
        ·have h0':¬ 0≤ordT y x:=fun h=>by have:=hob.1 h;rw [hb] at this;cases this
         rw [key hsp (hbo.trans hb)]
         have hin:=links_inner t hpo hdl x A i h1 hll (fun se=>lnksT t.ds (some x) se u && decide (t.ls.length≤4096)) hih [(x.a,x.p),(x.b,x.q)] (by simp) hes se [(x.a,x.p),(x.b,x.q)] 0 se rfl (by simp)
         (repeat' first|(with_reducible first|apply qac|apply tp_bnbn|apply qa3|apply qaz|apply qa1|apply qag (b:=true)|apply qag (b:=false)|apply qaa (b:=true)|apply qaa (b:=false)|apply qap|apply qan|apply qbd|apply qba|(apply qa2;omega)|(apply qbo;omega)|(apply qb8;omega)|(apply qbn;omega))|((conv=>arg 2;arg 1;simp (disch:=first|omega|assumption) only [qaq,qak,Option.map_some,qb9,qa5,qaf,qav,Nat.zero_add,Nat.add_zero,qbp,lay_int,lay_s,List.length_append,List.length_cons,List.length_nil,Bool.not_true,qa6,qa9,qa8,qbc,qa0,qbs,qbl,qbf,ld_sh,qa7,ldc0,ldcS,sto_sh,stoc0,stocS,lay_str,List.length_map,Nat.reduceAdd,hx,cellLnk,lnkcA,lnk_lay,lnkc0,lnkc1,lnkc2,lnkc3,topc1,hge,topc2,hix,hcy,r127,hor]);(with_reducible first|apply qac|apply qag (b:=false)|apply qaa (b:=false)|(apply qas;omega)|(apply qbx;omega))))
         refine qay (Eq.trans ?_ hin)
         conv=>lhs;simp only [bn_some,lenSl_sl,qa6,qa9,qa8]
         rfl
      ·have e:lnkT t.ds (aheadL t.ls i) se x=false:=by
        unfold lnkT shapeT;rw [decide_eq_false (fun h=>g5 (h.2.2.2 g4))];simp
       rw [e]
       rw [decide_eq_false g5] at hge
       (repeat' first|(with_reducible first|apply qac|apply qa3|apply qaz|apply qa1|apply qai|apply qag (b:=true)|apply qag (b:=false)|apply tot_gbn|apply qaa (b:=true)|apply qaa (b:=false)|apply qap|apply qan|apply qbd|apply qbq|apply qba|(apply qa2;omega)|(apply qbo;omega)|(apply qb8;omega)|(apply qbn;omega))|((conv=>arg 2;arg 1;simp (disch:=first|omega|assumption) only [qaq,qak,Option.map_some,qax,qaf,qav,Nat.zero_add,Nat.add_zero,qbp,List.length_append,List.length_cons,List.length_nil,Bool.not_false,qa6,qa9,qa8,qbc,qa0,qbs,qbl,qbf,ld_sh,qa7,ldc0,ldcS,sto_sh,stoc0,stocS,List.length_map,Nat.reduceAdd,hx,cellLnk,lnkcA,lnk_lay,lnkc0,lnkc1,lnkc2,lnkc3,topc1,hge]);(with_reducible first|apply qac|apply qag (b:=true)|apply qag (b:=false)|apply qaa (b:=true)|apply qaa (b:=false)|(apply qas;omega))))
       ((try conv=>arg 2;simp (disch:=first|omega|assumption) only [qae,qaw,qam,qad,qau,qab,qah,List.take_left']);refine qal ?_)
       simp
     ·clear hge
      have hsp:shapeT t.ds.length x=true:=by unfold shapeT;exact decide_eq_true (by exact ⟨by omega,by omega,by omega,fun h=>absurd h g4⟩)
      by_cases h0:i=0
      ·subst h0
       rw [key hsp rfl]
       have hin:=links_inner t hpo hdl x A 0 h1 hll (fun se=>lnksT t.ds (some x) se u && decide (t.ls.length≤4096)) hih [(x.a,x.p),(x.b,x.q)] (by simp) hes se [(x.a,x.p),(x.b,x.q)] 0 se rfl (by simp)
       (repeat' first|(with_reducible first|apply qac|apply tp_bnbn|apply qa3|apply qaz|apply qa1|apply qag (b:=false)|apply qaa (b:=true)|apply qaa (b:=false)|apply qap|apply qan|apply qbj|apply qba|(apply qa2;omega)|(apply qbo;omega)|(apply qb8;omega)|(apply qbw;omega))|((conv=>arg 2;arg 1;simp (disch:=first|omega|assumption) only [qak,Option.map_some,qaf,qav,Nat.zero_add,Nat.add_zero,qbp,lay_int,lay_s,List.length_append,List.length_cons,List.length_nil,qa6,qa9,qa8,qbc,qa0,qbs,qbl,qbf,ld_sh,qa7,ldc0,ldcS,sto_sh,stoc0,stocS,lay_str,List.length_map,Nat.reduceAdd,hx,cellLnk,lnkcA,lnk_lay,lnkc0,lnkc1,lnkc2,lnkc3,topc1]);(with_reducible first|apply qac|apply qag (b:=false)|apply qaa (b:=false)|(apply qas;omega)|(apply qbo;omega))))
       refine qay (Eq.trans ?_ hin)
       conv=>lhs;simp only [bn_some,lenSl_sl,qa6,qa9,qa8]
       rfl
      ·obtain ⟨y,ha,hym,hix⟩:=lnk_ahead h0 h1
       have hor:=fun A=>s127 y x A
       have hob:=ordT_bef y x
       have hcy:∀ y,(encLnk y).canon=encLnk y:=fun y=>(plainLnk y).canon
       have hbo:befO (aheadL t.ls i) x=y.bef x:=by rw [ha];rfl
       cases hb:y.bef x
       ·have h0':=hob.2 hb
        rw [nob (hbo.trans hb)]
        (repeat' first|(with_reducible first|apply qac|apply qa3|apply qaz|apply qa1|apply qai|apply qag (b:=true)|apply qag (b:=false)|apply qaa (b:=true)|apply qaa (b:=false)|apply qap|apply qbd|apply qbj|apply qba|(apply qa2;omega)|(apply qbo;omega)|(apply tot_geq_t;omega)|(apply qb8;omega)|(apply qbw;omega))|((conv=>arg 2;arg 1;simp (disch:=first|omega|assumption) only [qaq,qak,Option.map_some,qb9,qa5,qax,qaf,qav,Nat.zero_add,Nat.add_zero,qbp,List.length_append,List.length_cons,List.length_nil,qa6,qa9,qa8,qbc,qa0,qbs,qbl,qbf,ld_sh,qa7,ldc0,ldcS,sto_sh,stoc0,stocS,List.length_map,Nat.reduceAdd,hx,cellLnk,lnkcA,lnk_lay,lnkc0,lnkc2,topc1,topc2,hix,hcy,r127,hor]);(with_reducible first|apply qac|apply qag (b:=false)|apply qaa (b:=true)|apply qaa (b:=false)|(apply qas;omega)|(apply qbx;omega))))
        ((try conv=>arg 2;simp (disch:=first|omega|assumption) only [qae,qaw,qam,qad,qau,qab,qah,List.take_left']);refine qal ?_)
        simp
       ·have h0':¬ 0≤ordT y x:=fun h=>by have:=hob.1 h;rw [hb] at this;cases this
        rw [key hsp (hbo.trans hb)]
        have hin:=links_inner t hpo hdl x A i h1 hll (fun se=>lnksT t.ds (some x) se u && decide (t.ls.length≤4096)) hih [(x.a,x.p),(x.b,x.q)] (by simp) hes se [(x.a,x.p),(x.b,x.q)] 0 se rfl (by simp)
        (repeat' first|(with_reducible first|apply qac|apply tp_bnbn|apply qa3|apply qaz|apply qa1|apply qag (b:=true)|apply qag (b:=false)|apply qaa (b:=true)|apply qaa (b:=false)|apply qap|apply qan|apply qbd|apply qbj|apply qba|(apply qa2;omega)|(apply qbo;omega)|(apply qb8;omega)|(apply qbw;omega))|((conv=>arg 2;arg 1;simp (disch:=first|omega|assumption) only [qaq,qak,Option.map_some,qb9,qa5,qaf,qav,Nat.zero_add,Nat.add_zero,qbp,lay_int,lay_s,List.length_append,List.length_cons,List.length_nil,qa6,qa9,qa8,qbc,qa0,qbs,qbl,qbf,ld_sh,qa7,ldc0,ldcS,sto_sh,stoc0,stocS,lay_str,List.length_map,Nat.reduceAdd,hx,cellLnk,lnkcA,lnk_lay,lnkc0,lnkc1,lnkc2,lnkc3,topc1,topc2,hix,hcy,r127,hor]);(with_reducible first|apply qac|apply qag (b:=false)|apply qaa (b:=false)|(apply qas;omega)|(apply qbx;omega))))
        refine qay (Eq.trans ?_ hin)
        conv=>lhs;simp only [bn_some,lenSl_sl,qa6,qa9,qa8]
        rfl
end
end Go.Vm.Rx
