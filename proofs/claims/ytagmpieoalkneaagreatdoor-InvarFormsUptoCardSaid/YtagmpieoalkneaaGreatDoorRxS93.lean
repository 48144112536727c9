/- RxS91, RxS92, RxS93 in one text. -/
import Derived.Test.YtagmpieoalkneaaGreatDoorRxS90
set_option linter.all false
/- Which topologies may be: the program's text. -/
namespace Go.Vm.Rx
open Go Go.Proofs P
set_option maxRecDepth 10000
set_option maxHeartbeats 4000000
theorem mk_map (kt:KT) (A:St):makeMapR kt A=some (.mp A.length,A++[.map kt [] [] [] 0]):=rfl
theorem s98 (t:Top) (hok:TopOk t) (hpo:∀ d,d ∈ t.ds→d.po.length≤64) (A:St):f98 (encTop t) A=some (.ret (.bool (lnksT t.ds none [] t.ls && decide (t.ls.length≤4096))),A):=by
 have:=links_loop t hok hpo A t.ls 0 [] rfl (by omega)
 unfold f98 n98;dsimp only
 refine qbb ?_
 (repeat' first|(with_reducible apply qa3)|((conv=>arg 2;arg 1;simp (disch:=first|omega|assumption) only [qaf,Nat.zero_add,List.length_append,List.length_cons,List.length_nil,qa0,qbs,qbl,qbf,qa7,ldc0,List.length_map,topbx,mk_map,topc2]);(with_reducible apply qac)))
 (refine qay ?_;(conv=>lhs;simp only []);exact this)
def aheadD (l:List Dev) (i:Nat):Option Str:=if i=0 then none else (l[i - 1]?).map (·.nm)
theorem aheadD_succ {l t:List Dev} {i:Nat} {x:Dev} (h:l.drop i=x::t):aheadD l (i+1)=some x.nm:=by
 unfold aheadD
 have h1:=qbz h
 have:=List.drop_eq_getElem_cons h1
 rw [h] at this
 rw [if_neg (by omega),Nat.add_sub_cancel,List.getElem?_eq_getElem h1,(List.cons.inj this).1];rfl
theorem dev_ahead {l:List Dev} {i:Nat} (h0:i≠0) (h:i<l.length):∃ y,aheadD l i=some y.nm∧indexAddrO 3 true (encL 3 (l.map encDev)) (.int .i64 ((i:Int) - 1))=some (.peek (devC y)):=by
 have e:((i:Int) - 1)=((i - 1:Nat):Int):=by omega
 have hlt:i - 1<l.length:=by omega
 refine ⟨l[i - 1],by unfold aheadD;rw [if_neg h0,List.getElem?_eq_getElem hlt];rfl, ?_⟩
 rw [e,idx_map hlt,cellDev];rfl
theorem dev_lay (x:Dev):layCells true 3 0 [.str [],.sl .full 0 [],.sl .full 0 []] (encDev x)=some (devC x):=rfl
theorem take_more {l t:List Dev} {i:Nat} {x:Dev} (h:l.drop i=x::t):∀ d,d ∈ l.take (i+1)→d ∈ l.take i∨d=x:=by
 intro d hd
 have h1:=qbz h
 have:=List.drop_eq_getElem_cons h1
 rw [h] at this
 rw [List.take_add_one,List.getElem?_eq_getElem h1,Option.toList_some,List.mem_append,List.mem_singleton,← (List.cons.inj this).1] at hd
 exact hd
section
variable (t:Top) (hok:TopOk t) (A:St)
include hok
theorem s52_loop:∀ (u:List Dev) (i:Nat) (ok:Bool),t.ds.drop i=u→i≤t.ds.length→(ok=true→∀ d,d ∈ t.ds.take i→d.po.length≤64) →
  LP Tryz.prog rxA 52 [0,1,0,1,1] [A] (Env.mk (sp [(1,.ref A.length 0),(1,.bool ok),(23,encL 3 (t.ds.map encDev)),(0,.int .i64 (t.ds.length:Nat)),(0,.int .i64 (i:Nat))] 44) []) (A++[.cells (topC t)]) =
   some (.ret (.int .i64 (if (ok && devsT (aheadD t.ds i) u && (lnksT t.ds none [] t.ls && decide (t.ls.length≤4096)))=true then 0 else 113)),A):=by
 have hdsh:=devs_shut t.ds 3
 have hdl:=hok.ds.1
 have hr1:(D.ref A.length 0).shut (A.length+1)=.ref A.length 0:=shut_ref _ (by omega)
 have hct:(encTop t).canon=encTop t:=(plainTop t).canon
 intro u
 induction u with
 | nil =>
  intro i ok ht hi hpo
  have h1:=qb1 ht
  refine qbb (qbh (q52_0 ..) ?_)
  unfold n52_0;dsimp only
  cases ok
  ·(repeat' first|(with_reducible first|apply qac|apply qa3|apply qaz|apply qa1|apply qai|apply qag (b:=true)|apply qaa (b:=true)|apply qaa (b:=false)|apply qap|apply qan|apply qbq)|((conv=>arg 2;arg 1;simp only [qaq,Option.map_some,qax,qb5,Bool.not_false,qa6,qa9,qa8]);(with_reducible first|apply qac|apply qaa (b:=true)|(apply qa2;omega))))
   ((try conv=>arg 2;simp (disch:=first|omega|assumption) only [qae,qao,qam,qad,qaj,qab,qah,List.take_left']);refine qal ?_)
   simp
  ·have hl:=fun A=>s98 t hok (fun d hd=>hpo rfl d (by rw [List.take_of_length_le h1];exact hd)) A
   cases hq:lnksT t.ds none [] t.ls && decide (t.ls.length≤4096)
   ·rw [hq] at hl
    (repeat' first|(with_reducible first|apply qa3|apply qaz|apply qa1|apply qai|apply qag (b:=false)|apply qaa (b:=false)|apply qap|apply qan|apply qba)|((conv=>arg 2;arg 1;simp (disch:=first|omega|assumption) only [qak,Option.map_some,qax,qb5,Bool.not_true,Bool.not_false,qa6,qa9,qa8,qa7,ldc0,topcA,hct,r98,hl]);(with_reducible first|apply qac|apply qaa (b:=true)|(apply qa2;omega))))
    ((try conv=>arg 2;simp (disch:=first|omega|assumption) only [qae,qao,qam,qad,qaj,qab,qah,List.take_left']);refine qal ?_)
    simp
   ·rw [hq] at hl
    (repeat' first|(with_reducible first|apply qa3|apply qaz|apply qa1|apply qai|apply qag (b:=false)|apply qaa (b:=false)|apply qan|apply qba)|((conv=>arg 2;arg 1;simp (disch:=first|omega|assumption) only [qak,Option.map_some,qax,qb5,Bool.not_true,qa6,qa9,qa8,qa7,ldc0,topcA,hct,r98,hl]);(with_reducible first|apply qac|apply qaa (b:=false)|(apply qa2;omega))))
    ((try conv=>arg 2;simp (disch:=first|omega|assumption) only [qae,qao,qam,qad,qaj,qab,qah,List.take_left']);refine qal ?_)
    simp [devsT]
 | cons x u ih =>
  intro i ok ht hi hpo
  have h1:=qbz ht
  have hx:=qb6 (f:=encDev) ht 3 true .i64
  have hah:=aheadD_succ ht
  have hih:=fun ok=>ih (i+1) ok (qbi ht) (by omega)
  rw [hah] at hih
  have hxo:=hok.ds.2 x (drop_mem ht)
  have hno:=hih false (fun h=>by cases h)
  simp only [Bool.false_and,Bool.false_eq_true,if_false] at hno
  have hn:=fun A=>s34 x.nm (by have:=hxo.nm;omega) A
  have hr1':=fun A=>s97 x.cl hxo.cl.1 hxo.cl.2 16 A
  have hr2':=fun A=>s97 x.po hxo.po.1 hxo.po.2 64 A
  have hs1:=str_canon x.cl 1
  have hs2:=str_canon x.po 1
  refine qbb (qbh (q52_0 ..) ?_)
  unfold n52_0;dsimp only
  cases ok
  ·rw [Bool.false_and,Bool.false_and,if_neg (by decide)]
   (repeat' first|(with_reducible first|apply qac|apply qa3|apply qaz|apply qa1|apply tp_gk|apply tot_gbn|apply qaa (b:=true)|apply qap|apply qan|apply qbj)|((conv=>arg 2;arg 1;simp (disch:=first|omega|assumption) only [qak,qbe,qa5,qav,Nat.zero_add,qbp,List.length_append,List.length_cons,List.length_nil,qa6,qa9,qa8,qbc,qbs,qbl,qbf,sto_sh,stoc0,stocS,Kept_n1,hx,cellDev,devcA,dev_lay]);(with_reducible first|apply qac|apply qbg|apply qag (b:=false)|apply qaa (b:=false)|(apply qas;omega))))
   refine qay ?_
   conv=>lhs;simp (disch:=first|omega|assumption) only [qak,qao,qaw,qbr,List.map_nil,Nat.zero_add,List.length_append,List.length_cons,List.length_nil,qa6,qa9,qa8,take_n1,hr1,hdsh]
   exact hno
  ·rw [devsT_cons]
   have fail:devT (aheadD t.ds i) x=false→(if (true && (devT (aheadD t.ds i) x && devsT (some x.nm) u) && (lnksT t.ds none [] t.ls && decide (t.ls.length≤4096)))=true then (0:Int) else 113)=113:=by
    intro h;rw [h];simp
   cases hnx:isName x.nm
   ·rw [hnx] at hn
    rw [fail (by unfold devT;rw [hnx];simp)]
    (repeat' first|(with_reducible first|apply qac|apply qa3|apply qaz|apply qa1|apply tp_gk|apply tot_gbn|apply qaa (b:=true)|apply qap|apply qan|apply qbd|apply qbj)|((conv=>arg 2;arg 1;simp (disch:=first|omega|assumption) only [qaq,qak,qbe,qa5,qaf,qav,Nat.zero_add,Nat.add_zero,qbp,List.length_append,List.length_cons,List.length_nil,qa6,qa9,qa8,qbc,qat,qbs,qbl,qbf,ld_sh,ldc0,ldcS,sto_sh,stoc0,stocS,Kept_n1,hx,cellDev,devcA,dev_lay,devc0,r34,hn]);(with_reducible first|apply qac|apply qbg|apply qag (b:=true)|apply qag (b:=false)|apply qaa (b:=true)|apply qaa (b:=false)|(apply qas;omega))))
    refine qay ?_
    conv=>lhs;simp (disch:=first|omega|assumption) only [qak,qao,qaw,qbr,List.map_nil,Nat.zero_add,List.length_append,List.length_cons,List.length_nil,qa6,qa9,qa8,take_n1,hr1,hdsh]
    exact hno
   ·rw [hnx] at hn
    have okd:devT (aheadD t.ds i) x=true→(if (true && (devT (aheadD t.ds i) x && devsT (some x.nm) u) && (lnksT t.ds none [] t.ls && decide (t.ls.length≤4096)))=true then (0:Int) else 113)=if (true && devsT (some x.nm) u && (lnksT t.ds none [] t.ls && decide (t.ls.length≤4096)))=true then 0 else 113:=by
     intro h;rw [h,Bool.true_and]
    have hpx:namesT x.po 64=true→∀ d,d ∈ t.ds.take (i+1)→d.po.length≤64:=by
     intro h d hd
     rcases take_more ht d hd with hd|rfl
     ·exact hpo rfl d hd
     ·unfold namesT at h
      simp only [Bool.and_eq_true,decide_eq_true_eq] at h
      omega
    by_cases h0:i=0
    ·subst h0
     have hle:lessO (aheadD t.ds 0) x.nm=true:=rfl
     cases hc:namesT x.cl 16
     ·rw [hc] at hr1'
      rw [fail (by unfold devT;rw [hc];simp)]
      (repeat' first|(with_reducible first|apply qac|apply qa3|apply qaz|apply qa1|apply tp_gk|apply qag (b:=true)|apply qaa (b:=true)|apply qap|apply qbd|apply qbj|apply qbq)|((conv=>arg 2;arg 1;simp (disch:=first|omega|assumption) only [qaq,qbe,qa5,qaf,qav,Nat.zero_add,Nat.add_zero,qbp,List.length_append,List.length_cons,List.length_nil,qa6,qa9,qa8,qbc,qaj,qat,qbs,qbl,qbf,ld_sh,ldc0,ldcS,sto_sh,stoc0,stocS,Kept_n1,hx,cellDev,devcA,dev_lay,devc0,devc1,hs1,r34,hn,r97,hr1']);(with_reducible first|apply qac|apply qbg|apply qag (b:=true)|apply qag (b:=false)|apply qaa (b:=true)|apply qaa (b:=false)|(apply qas;omega)|(apply qbn;omega))))
      refine qay ?_
      conv=>lhs;simp (disch:=first|omega|assumption) only [qak,qao,qaw,qbr,List.map_nil,Nat.zero_add,List.length_append,List.length_cons,List.length_nil,qa6,qa9,qa8,take_n1,hr1,hdsh]
      exact hno
     ·rw [hc] at hr1'
      cases hp:namesT x.po 64
      ·rw [hp] at hr2'
       rw [fail (by unfold devT;rw [hp];simp)]
       (repeat' first|(with_reducible first|apply qac|apply qa3|apply qaz|apply qa1|apply tp_gk|apply qag (b:=true)|apply qaa (b:=true)|apply qap|apply qbd|apply qbq)|((conv=>arg 2;arg 1;simp (disch:=first|omega|assumption) only [qaq,qbe,qa5,qaf,qav,Nat.zero_add,Nat.add_zero,qbp,List.length_append,List.length_cons,List.length_nil,qa6,qa9,qa8,qbc,qaj,qat,qbs,qbl,qbf,ld_sh,ldc0,ldcS,sto_sh,stoc0,stocS,Kept_n1,hx,cellDev,devcA,dev_lay,devc0,devc1,devc2,hs1,hs2,r34,hn,r97,hr1',hr2']);(with_reducible first|apply qac|apply qbg|apply qag (b:=true)|apply qaa (b:=true)|(apply qas;omega)|(apply qbn;omega))))
       refine qay ?_
       conv=>lhs;simp (disch:=first|omega|assumption) only [qaq,qao,qaw,qbr,List.map_nil,Nat.zero_add,List.length_append,List.length_cons,List.length_nil,qa6,qa9,qa8,take_n1,hr1,hdsh]
       exact hno
      ·rw [hp] at hr2'
       rw [okd (by unfold devT;rw [hnx,hc,hp,hle];rfl)]
       (repeat' first|(with_reducible first|apply qac|apply qa3|apply qaz|apply qa1|apply tp_gk|apply qag (b:=true)|apply qaa (b:=true)|apply qap|apply qbd|apply qbq)|((conv=>arg 2;arg 1;simp (disch:=first|omega|assumption) only [qaq,qbe,qa5,qaf,qav,Nat.zero_add,Nat.add_zero,qbp,List.length_append,List.length_cons,List.length_nil,qa6,qa9,qa8,qbc,qaj,qat,qbs,qbl,qbf,ld_sh,ldc0,ldcS,sto_sh,stoc0,stocS,Kept_n1,hx,cellDev,devcA,dev_lay,devc0,devc1,devc2,hs1,hs2,r34,hn,r97,hr1',hr2']);(with_reducible first|apply qac|apply qbg|apply qag (b:=true)|apply qaa (b:=true)|(apply qas;omega)|(apply qbn;omega))))
       refine qay ?_
       conv=>lhs;simp (disch:=first|omega|assumption) only [qaq,qao,qaw,qbr,List.map_nil,Nat.zero_add,List.length_append,List.length_cons,List.length_nil,qa6,qa9,qa8,take_n1,hr1,hdsh]
       exact hih true fun _=>hpx hp
    ·obtain ⟨y,ha,hix⟩:=dev_ahead h0 h1
     have hls:=slss 3 false y.nm x.nm
     have hle:lessO (aheadD t.ds i) x.nm=decide (y.nm<x.nm):=by rw [ha];rfl
     cases hlt:decide (y.nm<x.nm)
     ·rw [hlt] at hls hle
      rw [fail (by unfold devT;rw [hle];simp)]
      (repeat' first|(with_reducible first|apply qac|apply qa3|apply qaz|apply qa1|apply tp_gk|apply qag (b:=false)|apply qaa (b:=true)|apply qaa (b:=false)|apply qap|apply qbd|apply qbj|apply qba)|((conv=>arg 2;arg 1;simp (disch:=first|omega|assumption) only [qaq,qak,qbe,qb9,qa5,qaf,qbt,qav,List.drop_zero,Nat.zero_add,Nat.add_zero,qbp,List.length_append,List.length_cons,List.length_nil,qa6,qa9,qa8,qbc,qat,qbs,qbl,qbf,ld_sh,qa7,ldc0,ldcS,sto_sh,stoc0,stocS,Kept_n1,hx,cellDev,devcA,dev_lay,devc0,topc1,hix,hls,r34,hn]);(with_reducible first|apply qac|apply qbg|apply qag (b:=true)|apply qag (b:=false)|apply qaa (b:=true)|apply qaa (b:=false)|(apply qas;omega)|(apply qbw;omega))))
      refine qay ?_
      conv=>lhs;simp (disch:=first|omega|assumption) only [qak,qao,qaw,qbr,List.map_nil,Nat.zero_add,List.length_append,List.length_cons,List.length_nil,qa6,qa9,qa8,take_n1,hr1,hdsh]
      exact hno
     ·rw [hlt] at hls hle
      cases hc:namesT x.cl 16
      ·rw [hc] at hr1'
       rw [fail (by unfold devT;rw [hc];simp)]
       (repeat' first|(with_reducible first|apply qac|apply qa3|apply qaz|apply qa1|apply tp_gk|apply qag (b:=false)|apply qaa (b:=true)|apply qaa (b:=false)|apply qap|apply qbd|apply qbj|apply qba)|((conv=>arg 2;arg 1;simp (disch:=first|omega|assumption) only [qaq,qak,qbe,qb9,qa5,qaf,qbt,qav,List.drop_zero,Nat.zero_add,Nat.add_zero,qbp,List.length_append,List.length_cons,List.length_nil,qa6,qa9,qa8,qbc,qaj,qat,qbs,qbl,qbf,ld_sh,qa7,ldc0,ldcS,sto_sh,stoc0,stocS,Kept_n1,hx,cellDev,devcA,dev_lay,devc0,devc1,topc1,hs1,r34,hn,r97,hix,hls,hr1']);(with_reducible first|apply qac|apply qbg|apply qag (b:=true)|apply qag (b:=false)|apply qaa (b:=true)|apply qaa (b:=false)|(apply qas;omega)|(apply qbw;omega))))
       refine qay ?_
       conv=>lhs;simp (disch:=first|omega|assumption) only [qak,qao,qaw,qbr,List.map_nil,Nat.zero_add,List.length_append,List.length_cons,List.length_nil,qa6,qa9,qa8,take_n1,hr1,hdsh]
       exact hno
      ·rw [hc] at hr1'
       cases hp:namesT x.po 64
       ·rw [hp] at hr2'
        rw [fail (by unfold devT;rw [hp];simp)]
        (repeat' first|(with_reducible first|apply qac|apply qa3|apply qaz|apply qa1|apply tp_gk|apply qag (b:=false)|apply qaa (b:=true)|apply qaa (b:=false)|apply qap|apply qbd|apply qba)|((conv=>arg 2;arg 1;simp (disch:=first|omega|assumption) only [qaq,qak,qbe,qb9,qa5,qaf,qbt,qav,List.drop_zero,Nat.zero_add,Nat.add_zero,qbp,List.length_append,List.length_cons,List.length_nil,qa6,qa9,qa8,qbc,qaj,qat,qbs,qbl,qbf,ld_sh,qa7,ldc0,ldcS,sto_sh,stoc0,stocS,Kept_n1,hx,cellDev,devcA,dev_lay,devc0,devc1,devc2,topc1,hs1,hs2,r34,hn,r97,hix,hls,hr1',hr2']);(with_reducible first|apply qac|apply qbg|apply qag (b:=true)|apply qaa (b:=true)|(apply qas;omega)|(apply qbw;omega))))
        refine qay ?_
        conv=>lhs;simp (disch:=first|omega|assumption) only [qaq,qao,qaw,qbr,List.map_nil,Nat.zero_add,List.length_append,List.length_cons,List.length_nil,qa6,qa9,qa8,take_n1,hr1,hdsh]
        exact hno
       ·rw [hp] at hr2'
        rw [okd (by unfold devT;rw [hnx,hc,hp,hle];rfl)]
        (repeat' first|(with_reducible first|apply qac|apply qa3|apply qaz|apply qa1|apply tp_gk|apply qag (b:=false)|apply qaa (b:=true)|apply qaa (b:=false)|apply qap|apply qbd|apply qba)|((conv=>arg 2;arg 1;simp (disch:=first|omega|assumption) only [qaq,qak,qbe,qb9,qa5,qaf,qbt,qav,List.drop_zero,Nat.zero_add,Nat.add_zero,qbp,List.length_append,List.length_cons,List.length_nil,qa6,qa9,qa8,qbc,qaj,qat,qbs,qbl,qbf,ld_sh,qa7,ldc0,ldcS,sto_sh,stoc0,stocS,Kept_n1,hx,cellDev,devcA,dev_lay,devc0,devc1,devc2,topc1,hs1,hs2,r34,hn,r97,hix,hls,hr1',hr2']);(with_reducible first|apply qac|apply qbg|apply qag (b:=true)|apply qaa (b:=true)|(apply qas;omega)|(apply qbw;omega))))
        refine qay ?_
        conv=>lhs;simp (disch:=first|omega|assumption) only [qaq,qao,qaw,qbr,List.map_nil,Nat.zero_add,List.length_append,List.length_cons,List.length_nil,qa6,qa9,qa8,take_n1,hr1,hdsh]
        exact hih true fun _=>hpx hp
end
end Go.Vm.Rx

/- Which topologies may be: the program's text;the reference's ends and ports. -/
namespace Go.Vm.Rx
open Go Go.Proofs P
set_option maxRecDepth 10000
set_option maxHeartbeats 4000000
theorem s52 (t:Top) (hok:TopOk t) (A:St):f52 (encTop t) A=some (.ret (.int .i64 (topE t)),A):=by
 have hlo:=fun ok=>s52_loop t hok A t.ds 0 ok rfl (by omega) (fun _ d hd=>by simp at hd)
 have hdl:=hok.ds.1
 have e:topE t=if (decide (1≤t.w∧t.w≤128) && decide (1≤t.ds.length∧t.ds.length≤256) && devsT (aheadD t.ds 0) t.ds && (lnksT t.ds none [] t.ls && decide (t.ls.length≤4096)))=true then 0 else 113:=rfl
 rw [e]
 unfold f52 n52;dsimp only
 refine qbb ?_
 by_cases h1:1≤t.w
 ·by_cases h2:t.w≤128
  ·rw [decide_eq_true (show 1≤t.w∧t.w≤128 from ⟨h1,h2⟩),Bool.true_and]
   by_cases h3:1≤t.ds.length
   ·by_cases h4:t.ds.length≤256
    ·rw [decide_eq_true (show 1≤t.ds.length∧t.ds.length≤256 from ⟨h3,h4⟩)]
     (repeat' first|(with_reducible first|apply qa3|apply qaz|apply qag (b:=true)|apply qaa (b:=true)|apply qbd|(apply tot_leq_t;omega)|(apply tot_geq_t;omega))|((conv=>arg 2;arg 1;simp (disch:=first|omega|assumption) only [qaq,qaf,Nat.zero_add,Nat.add_zero,qa0,qa7,ldc0,List.length_map,topbx,topc0,topc1]);(with_reducible first|apply qac|apply qag (b:=true)|apply qaa (b:=true))))
     (refine qay ?_;(conv=>lhs;simp only [qaq]);exact hlo true)
    ·rw [decide_eq_false (fun h=>h4 h.2)]
     (repeat' first|(with_reducible first|apply qa3|apply qaz|apply qag (b:=true)|apply qaa (b:=true)|apply qbd|(apply tot_leq_t;omega)|(apply tot_leq_f;omega)|(apply tot_geq_t;omega))|((conv=>arg 2;arg 1;simp (disch:=first|omega|assumption) only [qaq,qaf,Nat.zero_add,Nat.add_zero,qa0,qa7,ldc0,List.length_map,topbx,topc0,topc1]);(with_reducible first|apply qac|apply qag (b:=true)|apply qaa (b:=true))))
     (refine qay ?_;(conv=>lhs;simp only [qaq]);exact hlo false)
   ·rw [decide_eq_false (fun h=>h3 h.1)]
    (repeat' first|(with_reducible first|apply qac|apply qa3|apply qaz|apply qag (b:=true)|apply qaa (b:=true)|apply qbd|apply qbj|(apply tot_leq_t;omega)|(apply tot_geq_t;omega)|(apply qb8;omega))|((conv=>arg 2;arg 1;simp (disch:=first|omega|assumption) only [qaq,qaf,Nat.zero_add,Nat.add_zero,qa0,qa7,ldc0,List.length_map,topbx,topc0,topc1]);(with_reducible first|apply qac|apply qag (b:=true)|apply qag (b:=false)|apply qaa (b:=true)|apply qaa (b:=false))))
    (refine qay ?_;(conv=>lhs;simp only [qak]);exact hlo false)
  ·rw [decide_eq_false (fun h=>h2 h.2),Bool.false_and]
   (repeat' first|(with_reducible first|apply qac|apply qa3|apply qaz|apply qag (b:=true)|apply qaa (b:=true)|apply qbd|apply qbj|(apply tot_leq_f;omega)|(apply tot_geq_t;omega))|((conv=>arg 2;arg 1;simp (disch:=first|omega|assumption) only [qaq,qak,qaf,Nat.zero_add,Nat.add_zero,qa0,qa7,ldc0,List.length_map,topbx,topc0,topc1]);(with_reducible first|apply qac|apply qag (b:=false)|apply qaa (b:=false))))
   (refine qay ?_;(conv=>lhs;simp only [qak]);exact hlo false)
 ·rw [decide_eq_false (fun h=>h1 h.1),Bool.false_and]
  (repeat' first|(with_reducible first|apply qac|apply qa3|apply qaz|apply qag (b:=false)|apply qaa (b:=false)|apply qbj|(apply qb8;omega))|((conv=>arg 2;arg 1;simp (disch:=first|omega|assumption) only [qak,qaf,Nat.zero_add,Nat.add_zero,qa0,qa7,ldc0,List.length_map,topbx,topc0,topc1]);(with_reducible first|apply qac|apply qag (b:=false)|apply qaa (b:=false))))
  (refine qay ?_;(conv=>lhs;simp only [qak]);exact hlo false)
theorem s132_loop (w:Str) (l:List Str) (hl:l.length≤100000000) (A:St):∀ (t:List Str) (i:Nat),l.drop i=t→i≤l.length →
  LP Tryz.prog rxA 132 [0,1,0,1] [A] (Env.mk (sp [(0,encL 1 (l.map .str)),(0,.str w),(3,.int .i64 (i:Nat))] 13) []) A=some (.ret (.int .i64 (idxStr w t i)),A):=by
 have hsh:=str_shut l 1
 intro t
 induction t with
 | nil =>
  intro i ht hi
  have h1:=qb1 ht
  refine qbb (qbh (q132_0 ..) ?_)
  unfold n132_0;dsimp only
  (repeat' first|(with_reducible first|apply qai|apply qaa (b:=false)|apply qan)|((conv=>arg 2;arg 1;simp only [Option.map_some,qax,qa6,qa9,qa8,qa0,List.length_map]);(with_reducible first|apply qac|(apply qa2;omega))))
  ((try conv=>arg 2;simp only [qae,qao,qar,qad,List.take_length,qaj,qab,qah]);refine qal ?_)
  rfl
 | cons x t ih =>
  intro i ht hi
  have h1:=qbz ht
  have hx:=qb6 (f:=D.str) ht 1 false .i64
  have hih:=ih (i+1) (qbi ht) (by omega)
  refine qbb (qbh (q132_0 ..) ?_)
  unfold n132_0;dsimp only
  unfold idxStr
  by_cases he:x=w
  ·rw [if_pos he.symm]
   (repeat' first|(with_reducible first|apply qa3|apply qai|apply qaa (b:=true)|apply qap)|((conv=>arg 2;arg 1;simp (disch:=first|omega|assumption) only [Option.map_some,qax,qav,qa4,qa6,qa9,qa8,qbc,qa0,cell_str,List.length_map,hx]);(with_reducible first|apply qac|(apply qas;omega)|(apply tot_seql_t;first|assumption|with_reducible rfl))))
   ((try conv=>arg 2;simp only [qae,qao,qar,qad,List.take_length,qaj,qab,qah]);refine qal ?_)
   rfl
  ·rw [if_neg fun h=>he h.symm]
   (repeat' first|(with_reducible first|apply qa3|apply tp_gk|apply qaa (b:=true)|apply qaa (b:=false)|apply qap|apply qan)|((conv=>arg 2;arg 1;simp (disch:=first|omega|assumption) only [qbe,qa5,qar,qav,qa4,qa6,qa9,qa8,qbc,qa0,cell_str,List.length_map,hx]);(with_reducible first|apply qac|apply qbg|(apply qas;omega)|(apply tot_seql_f;first|assumption|decide|exact List.cons_ne_nil _ _))))
   (refine qay ?_;(conv=>lhs;simp only [qao,qbr,shut_strD,List.take_length,List.map_nil,qa6,qa8]);rw [hsh];simp only [Int.natCast_add,Int.natCast_one] at hih;exact hih)
theorem s132 (w:Str) (l:List Str) (hl:l.length≤100000000) (A:St):f132 (encL 1 (l.map .str)) (.str w) A=some (.ret (.int .i64 (idxStr w l 0)),A):=by
 have:=s132_loop w l hl A l 0 rfl (by omega)
 unfold f132 n132;dsimp only
 refine qbb ?_
 skip
 (refine qay ?_;(conv=>lhs;simp only []);exact this)
def atT (x:Lnk) (e:LEnd):Bool:=decide (x.a=e.1∧x.p=e.2∨x.b=e.1∧x.q=e.2)
theorem s133 (x:Lnk) (a:Int) (p:Str) (A:St):f133 (encLnk x) (.int .i64 a) (.str p) A=some (.ret (.bool (atT x (a,p))),A):=by
 have bx:=fun x A=>(by simp [boxO,cellLnk,allocD]:boxO true (encLnk x) A=some (.ref A.length 0,A++[.cells (lnkC x)]))
 have e:atT x (a,p)=decide (x.a=a∧x.p=p∨x.b=a∧x.q=p):=rfl
 rw [e]
 unfold f133 n133;dsimp only
 refine qbb ?_
 by_cases h1:x.a=a
 ·by_cases h2:x.p=p
  ·(repeat' first|(with_reducible first|apply qac|apply qa3|apply qaz|apply qai|apply qag (b:=true)|apply tot_gbn|apply qaa (b:=true)|apply qan|apply qbd|apply qbq|(apply qbn;omega)|(apply tot_seql_t;first|assumption|with_reducible rfl))|((conv=>arg 2;arg 1;simp (disch:=first|omega|assumption) only [qaq,qaf,Nat.zero_add,Nat.add_zero,qa7,ldc0,bx,lnkc0,lnkc1]);(with_reducible first|apply qac|apply qag (b:=true)|apply qaa (b:=true))))
   ((try conv=>arg 2;simp (disch:=first|omega|assumption) only [qaq,qae,qaw,qam,qad,qau,qab,qah,List.take_left']);refine qal ?_)
   simp [h1,h2]
  ·by_cases h3:x.b=a
   ·by_cases h4:x.q=p
    ·(repeat' first|(with_reducible first|apply qac|apply qa3|apply qaz|apply qai|apply qag (b:=true)|apply qaa (b:=true)|apply qbd|apply qba|(apply qbn;omega)|(apply tot_seql_t;first|assumption|with_reducible rfl)|(apply tot_seql_f;first|assumption|decide|exact List.cons_ne_nil _ _))|((conv=>arg 2;arg 1;simp (disch:=first|omega|assumption) only [qaq,qaf,Nat.zero_add,Nat.add_zero,qa7,ldc0,bx,lnkc0,lnkc1,lnkc2,lnkc3]);(with_reducible first|apply qac|apply qag (b:=false)|apply qaa (b:=false))))
     ((try conv=>arg 2;simp (disch:=first|omega|assumption) only [qaq,qak,qae,qaw,qam,qad,qau,qab,qah,List.take_left']);refine qal ?_)
     simp [h3,h4]
    ·(repeat' first|(with_reducible first|apply qac|apply qa3|apply qaz|apply qai|apply qag (b:=true)|apply qaa (b:=true)|apply qbd|apply qba|(apply qbn;omega)|(apply tot_seql_f;first|assumption|decide|exact List.cons_ne_nil _ _))|((conv=>arg 2;arg 1;simp (disch:=first|omega|assumption) only [qaq,qaf,Nat.zero_add,Nat.add_zero,qa7,ldc0,bx,lnkc0,lnkc1,lnkc2,lnkc3]);(with_reducible first|apply qac|apply qag (b:=false)|apply qaa (b:=false))))
     ((try conv=>arg 2;simp (disch:=first|omega|assumption) only [qaq,qak,qae,qaw,qam,qad,qau,qab,qah,List.take_left']);refine qal ?_)
     simp [h2,h4]
   ·(repeat' first|(with_reducible first|apply qac|apply qa3|apply qaz|apply qai|apply qag (b:=true)|apply qag (b:=false)|apply qaa (b:=true)|apply qaa (b:=false)|apply qbd|apply qbj|apply qba|(apply qbn;omega)|(apply qbw;omega)|(apply tot_seql_f;first|assumption|decide|exact List.cons_ne_nil _ _))|((conv=>arg 2;arg 1;simp (disch:=first|omega|assumption) only [qaq,qaf,Nat.zero_add,Nat.add_zero,qa7,ldc0,bx,lnkc0,lnkc1,lnkc2]);(with_reducible first|apply qac|apply qag (b:=false)|apply qaa (b:=false))))
    ((try conv=>arg 2;simp (disch:=first|omega|assumption) only [qak,qae,qaw,qam,qad,qau,qab,qah,List.take_left']);refine qal ?_)
    simp [h2,h3]
 ·by_cases h3:x.b=a
  ·by_cases h4:x.q=p
   ·(repeat' first|(with_reducible first|apply qac|apply qa3|apply qaz|apply qai|apply qag (b:=true)|apply qag (b:=false)|apply qaa (b:=true)|apply qaa (b:=false)|apply qbd|apply qbj|apply qba|(apply qbn;omega)|(apply qbw;omega)|(apply tot_seql_t;first|assumption|with_reducible rfl))|((conv=>arg 2;arg 1;simp (disch:=first|omega|assumption) only [qak,qaf,Nat.zero_add,Nat.add_zero,qa7,ldc0,bx,lnkc0,lnkc2,lnkc3]);(with_reducible first|apply qac|apply qag (b:=false)|apply qaa (b:=false))))
    ((try conv=>arg 2;simp (disch:=first|omega|assumption) only [qaq,qak,qae,qaw,qam,qad,qau,qab,qah,List.take_left']);refine qal ?_)
    simp [h3,h4]
   ·(repeat' first|(with_reducible first|apply qac|apply qa3|apply qaz|apply qai|apply qag (b:=true)|apply qag (b:=false)|apply qaa (b:=true)|apply qaa (b:=false)|apply qbd|apply qbj|apply qba|(apply qbn;omega)|(apply qbw;omega)|(apply tot_seql_f;first|assumption|decide|exact List.cons_ne_nil _ _))|((conv=>arg 2;arg 1;simp (disch:=first|omega|assumption) only [qak,qaf,Nat.zero_add,Nat.add_zero,qa7,ldc0,bx,lnkc0,lnkc2,lnkc3]);(with_reducible first|apply qac|apply qag (b:=false)|apply qaa (b:=false))))
    ((try conv=>arg 2;simp (disch:=first|omega|assumption) only [qaq,qak,qae,qaw,qam,qad,qau,qab,qah,List.take_left']);refine qal ?_)
    simp [h1,h4]
  ·(repeat' first|(with_reducible first|apply qac|apply qa3|apply qaz|apply qai|apply qag (b:=false)|apply qaa (b:=false)|apply qbj|apply qba|(apply qbw;omega))|((conv=>arg 2;arg 1;simp (disch:=first|omega|assumption) only [qak,qaf,Nat.zero_add,Nat.add_zero,qa7,ldc0,bx,lnkc0,lnkc2]);(with_reducible first|apply qac|apply qag (b:=false)|apply qaa (b:=false))))
   ((try conv=>arg 2;simp (disch:=first|omega|assumption) only [qak,qae,qaw,qam,qad,qau,qab,qah,List.take_left']);refine qal ?_)
   simp [h1,h3]
theorem endsT_mem (y:Lnk) (u:List Lnk) (e:LEnd):e ∈ endsT (y::u)↔atT y e=true∨e ∈ endsT u:=by
 obtain ⟨a,p⟩:=e
 simp only [endsT,List.mem_cons,Prod.mk.injEq,atT,decide_eq_true_eq]
 constructor
 ·rintro (⟨h1,h2⟩|⟨h1,h2⟩|h)
  ·exact .inl (.inl ⟨h1.symm,h2.symm⟩)
  ·exact .inl (.inr ⟨h1.symm,h2.symm⟩)
  ·exact .inr h
 ·rintro ((⟨h1,h2⟩|⟨h1,h2⟩)|h)
  ·exact .inl ⟨h1.symm,h2.symm⟩
  ·exact .inr (.inl ⟨h1.symm,h2.symm⟩)
  ·exact .inr (.inr h)
section
variable (t:Top) (hok:TopOk t) (x:Lnk) (A:St)
include hok
theorem s104_loop (i:Nat) (hi:i<t.ls.length):∀ (u v:List Lnk) (k:Nat),t.ls.drop k=u++v→k+u.length=i →
  LP Tryz.prog rxA 104 [0,1,0,1,1,1,1] [A] (Env.mk (sp [(1,.int .i64 (i:Nat)),(0,.ref A.length 0),(2,.ref (A.length+1) 0),(1,.int .i64 (k:Nat))] 102) []) (A++[.cells (topC t),.cells (lnkC x)])=some (.ret (.bool (!seenT (endsT u) (x.a,x.p) && !seenT (endsT u) (x.b,x.q))),A):=by
 have hll:=hok.ls.1
 have hr2:(D.ref A.length 0).shut (A.length+2)=.ref A.length 0:=shut_ref _ (by omega)
 have hr3:(D.ref (A.length+1) 0).shut (A.length+2)=.ref (A.length+1) 0:=shut_ref _ (by omega)
 intro u
 induction u with
 | nil =>
  intro v k hk hki
  simp only [List.length_nil] at hki
  refine qbb (qbh (q104_0 ..) ?_)
  unfold n104_0;dsimp only
  (repeat' first|(with_reducible first|apply qai|apply qaa (b:=false)|apply qan)|((conv=>arg 2;arg 1;simp only [Option.map_some,qax,qa6,qa9,qa8]);(with_reducible first|apply qac|(apply qa2;omega))))
  ((try conv=>arg 2;simp (disch:=first|omega|assumption) only [qae,qaw,qam,qad,qau,qab,qah,List.take_left']);refine qal ?_)
  simp [endsT,seenT]
 | cons y u ih =>
  intro v k hk hki
  simp only [List.length_cons] at hki
  rw [List.cons_append] at hk
  have hx:=qb6 (f:=encLnk) hk 4 true .i64
  have hih:=ih v (k+1) (qbi hk) (by omega)
  have ha:=fun a p A=>s133 y a p A
  have hcy:(encLnk y).canon=encLnk y:=(plainLnk y).canon
  have e1:∀ e,seenT (endsT (y::u)) e=(atT y e || seenT (endsT u) e):=fun e=>by
   unfold seenT
   rw [Bool.eq_iff_iff]
   simp [endsT_mem]
  rw [e1,e1]
  refine qbb (qbh (q104_0 ..) ?_)
  unfold n104_0;dsimp only
  cases h1:atT y (x.a,x.p)
  ·cases h2:atT y (x.b,x.q)
   ·have ha1:=ha x.a x.p;rw [h1] at ha1
    have ha2:=ha x.b x.q;rw [h2] at ha2
    (repeat' first|(with_reducible first|apply qa3|apply qaz|apply qa1|apply tp_gk|apply qag (b:=false)|apply qaa (b:=true)|apply qaa (b:=false)|apply qap|apply qan|apply qba)|((conv=>arg 2;arg 1;simp (disch:=first|omega|assumption) only [qak,qbe,qa5,qaf,qav,Nat.zero_add,Nat.add_zero,qbp,List.length_append,List.length_cons,List.length_nil,qa6,qa9,qa8,qbc,qaj,qat,qbs,qbl,qbf,ld_sh,qa7,ldc0,ldcS,sto_sh,stoc0,stocS,Nat.reduceAdd,Kept_n2,hx,cellLnk,lnkcA,lnk_lay,lnkc0,lnkc1,lnkc2,lnkc3,topc2,hcy,r133,ha1,ha2]);(with_reducible first|apply qac|apply qbg|apply qaa (b:=false)|(apply qas;omega))))
    refine qay ?_
    conv=>lhs;simp (disch:=first|omega|assumption) only [qao,qbr,List.map_nil,Nat.zero_add,List.length_append,List.length_cons,List.length_nil,qa6,qa9,qa8,Nat.reduceAdd,take_n2,hr2,hr3]
    simpa using hih
   ·have ha1:=ha x.a x.p;rw [h1] at ha1
    have ha2:=ha x.b x.q;rw [h2] at ha2
    (repeat' first|(with_reducible first|apply qa3|apply qaz|apply qa1|apply qai|apply qag (b:=false)|apply qaa (b:=true)|apply qaa (b:=false)|apply qap|apply qba)|((conv=>arg 2;arg 1;simp (disch:=first|omega|assumption) only [qak,Option.map_some,qax,qaf,qav,Nat.zero_add,Nat.add_zero,qbp,List.length_append,List.length_cons,List.length_nil,qa6,qa9,qa8,qbc,qaj,qat,qbs,qbl,qbf,ld_sh,qa7,ldc0,ldcS,sto_sh,stoc0,stocS,Nat.reduceAdd,hx,cellLnk,lnkcA,lnk_lay,lnkc0,lnkc1,lnkc2,lnkc3,topc2,hcy,r133,ha1,ha2]);(with_reducible first|apply qac|apply qaa (b:=true)|(apply qas;omega))))
    ((try conv=>arg 2;simp (disch:=first|omega|assumption) only [qae,qaw,qam,qad,qau,qab,qah,List.take_left']);refine qal ?_)
    simp
  ·have ha1:=ha x.a x.p;rw [h1] at ha1
   (repeat' first|(with_reducible first|apply qac|apply qa3|apply qaz|apply qa1|apply qai|apply qag (b:=true)|apply qaa (b:=true)|apply qap|apply qbq)|((conv=>arg 2;arg 1;simp (disch:=first|omega|assumption) only [qaq,Option.map_some,qax,qaf,qav,Nat.zero_add,Nat.add_zero,qbp,List.length_append,List.length_cons,List.length_nil,qa6,qa9,qa8,qbc,qaj,qat,qbs,qbl,qbf,ld_sh,qa7,ldc0,ldcS,sto_sh,stoc0,stocS,Nat.reduceAdd,hx,cellLnk,lnkcA,lnk_lay,lnkc0,lnkc1,topc2,hcy,r133,ha1]);(with_reducible first|apply qac|apply qaa (b:=true)|(apply qas;omega))))
   ((try conv=>arg 2;simp (disch:=first|omega|assumption) only [qae,qaw,qam,qad,qau,qab,qah,List.take_left']);refine qal ?_)
   simp
end
end Go.Vm.Rx

/- Which topologies may be: the reference's text. -/
namespace Go.Vm.Rx
open Go Go.Proofs P
set_option maxRecDepth 10000
set_option maxHeartbeats 4000000
theorem get_top (A L:St) (c:Slot):(A++c::L)[A.length]?=some c:=by simp
section
variable (t:Top) (hok:TopOk t) (A:St)
include hok
theorem s104 (x:Lnk) (v:List Lnk) (i:Nat) (hx0:t.ls.drop i=x::v):f104 (encTop t) (.int .i64 (i:Nat)) A=some (.ret (.bool (lnkT t.ds (aheadL t.ls i) (endsT (t.ls.take i)) x)),A):=by
 have hll:=hok.ls.1
 have hdl:=hok.ds.1
 have h1:=qbz hx0
 have hx:=qb6 (f:=encLnk) hx0 4 true .i64
 obtain ⟨hp1,hp2⟩:=hok.ls.2 x (drop_mem hx0)
 have hge:=sgeq 3 false x.p x.q
 have hlo:=s104_loop t hok x A i h1 (t.ls.take i) (t.ls.drop i) 0 (by simp) (by simp;omega)
 have no:(shapeT t.ds.length x=false∨befO (aheadL t.ls i) x=false)→lnkT t.ds (aheadL t.ls i) (endsT (t.ls.take i)) x=false:=by
  rintro (h|h)<;>(unfold lnkT;rw [h];simp)
 unfold f104 n104;dsimp only
 refine qbb ?_
 by_cases g1:x.a<0
 ·rw [no (.inl (by unfold shapeT;exact decide_eq_false (by omega)))]
  (repeat' first|(with_reducible first|apply qac|apply qa3|apply qaz|apply qa1|apply tp_gs0|apply tp_gs1|apply qai|apply qag (b:=true)|apply tot_gbn|apply qaa (b:=true)|apply qap|apply qan|apply qbq|(apply qas;omega))|((conv=>arg 2;arg 1;simp (disch:=first|omega|assumption) only [qaq,qaf,qav,Nat.zero_add,Nat.add_zero,qbp,List.length_append,List.length_cons,List.length_nil,qbc,qa0,qbs,qbl,qbf,ld_sh,qa7,ldc0,ldcS,sto_sh,stoc0,stocS,List.length_map,sameAd_ref,topbx,hx,cellLnk,lnkcA,lnk_lay,lnkc0,topc1,topc2,sameAd_peek,get_top]);(with_reducible first|apply qac|apply qbg|apply qag (b:=true)|apply qaa (b:=true))))
  ((try conv=>arg 2;simp (disch:=first|omega|assumption) only [qae,qaw,qam,qad,qau,qab,qah,List.take_left']);refine qal ?_)
  rfl
 ·by_cases g2:(t.ds.length:Int)≤x.b
  ·rw [no (.inl (by unfold shapeT;exact decide_eq_false (by omega)))]
   (repeat' first|(with_reducible first|apply qac|apply qa3|apply qaz|apply qa1|apply tp_gs0|apply tp_gs1|apply qai|apply qag (b:=false)|apply tot_gbn|apply qaa (b:=false)|apply qap|apply qan|apply qbq|apply qba|(apply qa2;omega)|(apply tot_geq_t;omega))|((conv=>arg 2;arg 1;simp (disch:=first|omega|assumption) only [qaq,qak,qaf,qav,Nat.zero_add,Nat.add_zero,qbp,List.length_append,List.length_cons,List.length_nil,qbc,qa0,qbs,qbl,qbf,ld_sh,qa7,ldc0,ldcS,sto_sh,stoc0,stocS,List.length_map,sameAd_ref,topbx,hx,cellLnk,lnkcA,lnk_lay,lnkc0,lnkc2,topc1,topc2,sameAd_peek,get_top]);(with_reducible first|apply qac|apply qbg|apply qag (b:=true)|apply qaa (b:=true))))
   ((try conv=>arg 2;simp (disch:=first|omega|assumption) only [qae,qaw,qam,qad,qau,qab,qah,List.take_left']);refine qal ?_)
   rfl
  ·by_cases g3:x.b<x.a
   ·rw [no (.inl (by unfold shapeT;exact decide_eq_false (by omega)))]
    (repeat' first|(with_reducible first|apply qac|apply qa3|apply qaz|apply qa1|apply tp_gs0|apply tp_gs1|apply qai|apply qag (b:=false)|apply tot_gbn|apply qaa (b:=false)|apply qap|apply qan|apply qbq|apply qba|(apply qa2;omega)|(apply qbx;omega)|(apply qb8;omega))|((conv=>arg 2;arg 1;simp (disch:=first|omega|assumption) only [qaq,qak,qaf,qav,Nat.zero_add,Nat.add_zero,qbp,List.length_append,List.length_cons,List.length_nil,qbc,qa0,qbs,qbl,qbf,ld_sh,qa7,ldc0,ldcS,sto_sh,stoc0,stocS,List.length_map,sameAd_ref,topbx,hx,cellLnk,lnkcA,lnk_lay,lnkc0,lnkc2,topc1,topc2,sameAd_peek,get_top]);(with_reducible first|apply qac|apply qbg|apply qag (b:=true)|apply qag (b:=false)|apply qaa (b:=true)|apply qaa (b:=false))))
    ((try conv=>arg 2;simp (disch:=first|omega|assumption) only [qae,qaw,qam,qad,qau,qab,qah,List.take_left']);refine qal ?_)
    rfl
   ·have hda:=dev_at (ds:=t.ds) (a:=x.a) (by omega) (by omega)
    have hdb:=dev_at (ds:=t.ds) (a:=x.b) (by omega) (by omega)
    have hma:=(hok.ds.2 _ (dev_mem (ds:=t.ds) (a:=x.a) (by omega) (by omega))).po.1
    have hmb:=(hok.ds.2 _ (dev_mem (ds:=t.ds) (a:=x.b) (by omega) (by omega))).po.1
    have hpa:portT t.ds x.a x.p=decide (x.p ∈ (t.ds.getD x.a.toNat ⟨[],[],[]⟩).po):=rfl
    have hpb:portT t.ds x.b x.q=decide (x.q ∈ (t.ds.getD x.b.toNat ⟨[],[],[]⟩).po):=rfl
    generalize t.ds.getD x.a.toNat ⟨[],[],[]⟩=da at hda hma hpa
    generalize t.ds.getD x.b.toNat ⟨[],[],[]⟩=db at hdb hmb hpb
    have hca:=fun A=>s132 x.p da.po hma A
    have hcb:=fun A=>s132 x.q db.po hmb A
    have hia:=idxStr_ge x.p da.po 0 (by omega)
    have hib:=idxStr_ge x.q db.po 0 (by omega)
    have hea:=devd2 da
    have heb:=devd2 db
    have hsa:=str_canon da.po 1
    have hsb:=str_canon db.po 1
    have yes:shapeT t.ds.length x=true→befO (aheadL t.ls i) x=true→lnkT t.ds (aheadL t.ls i) (endsT (t.ls.take i)) x=((!seenT (endsT (t.ls.take i)) (x.a,x.p) && decide (x.p ∈ da.po)) && (!seenT (endsT (t.ls.take i)) (x.b,x.q) && decide (x.q ∈ db.po))):=by
     intro q1 q2;unfold lnkT;rw [q1,q2,hpa,hpb,Bool.true_and,Bool.true_and]
    by_cases g4:x.a=x.b
    ·by_cases g5:x.p<x.q
     ·rw [decide_eq_true g5] at hge
      have hsp:shapeT t.ds.length x=true:=by unfold shapeT;exact decide_eq_true ⟨by omega,by omega,by omega,fun _=>g5⟩
      by_cases h0:i=0
      ·have hbo:befO (aheadL t.ls i) x=true:=by rw [h0];rfl
       rw [yes hsp hbo]
       by_cases ga:x.p ∈ da.po
       ·have gb0:=hia.2 ga
        by_cases gb:x.q ∈ db.po
        ·have gb1:=hib.2 gb
         rw [decide_eq_true ga,decide_eq_true gb,Bool.and_true,Bool.and_true]
         (repeat' first|(with_reducible first|apply qac|apply qa3|apply qaz|apply qa1|apply tp_gs0|apply tp_gs1|apply qag (b:=true)|apply qag (b:=false)|apply qaa (b:=true)|apply qaa (b:=false)|apply qan|apply qbd|apply qbj|apply qba|(apply qa2;omega)|(apply qbo;omega)|(apply qb8;omega)|(apply qbn;omega))|((conv=>arg 2;arg 1;simp (disch:=first|omega|assumption) only [qaq,qak,qaf,qbt,qav,qa4,Nat.zero_add,Nat.add_zero,qbp,List.length_append,List.length_cons,List.length_nil,Bool.not_true,qbc,qat,qa0,qbs,qbl,qbf,ld_sh,qa7,ldc0,ldcS,sto_sh,stoc0,stocS,List.length_map,sameAd_ref,topbx,hx,cellLnk,lnkcA,lnk_lay,lnkc0,lnkc1,lnkc2,lnkc3,topc1,topc2,sameAd_peek,get_top,hda,hdb,hea,heb,hsa,hsb,r132,hca,hcb,hge]);(with_reducible first|apply qac|apply qbg|apply qag (b:=false)|apply qaa (b:=false))))
         (refine qay ?_;(conv=>lhs;simp only []);exact hlo)
        ·have gb1:¬ 0≤idxStr x.q db.po 0:=fun h=>gb (hib.1 h)
         rw [decide_eq_false gb,Bool.and_false,Bool.and_false]
         (repeat' first|(with_reducible first|apply qac|apply qa3|apply qaz|apply qa1|apply tp_gs0|apply tp_gs1|apply qai|apply qag (b:=true)|apply qag (b:=false)|apply qaa (b:=true)|apply qaa (b:=false)|apply qap|apply qan|apply qbd|apply qbj|apply qba|(apply qas;omega)|(apply qa2;omega)|(apply qbo;omega)|(apply qb8;omega)|(apply qbn;omega))|((conv=>arg 2;arg 1;simp (disch:=first|omega|assumption) only [qaq,qak,qaf,qbt,qav,qa4,Nat.zero_add,Nat.add_zero,qbp,List.length_append,List.length_cons,List.length_nil,Bool.not_true,qbc,qat,qa0,qbs,qbl,qbf,ld_sh,qa7,ldc0,ldcS,sto_sh,stoc0,stocS,List.length_map,sameAd_ref,topbx,hx,cellLnk,lnkcA,lnk_lay,lnkc0,lnkc1,lnkc2,lnkc3,topc1,topc2,sameAd_peek,get_top,hda,hdb,hea,heb,hsa,hsb,r132,hca,hcb,hge]);(with_reducible first|apply qac|apply qbg|apply qag (b:=false)|apply qaa (b:=true)|apply qaa (b:=false))))
         ((try conv=>arg 2;simp (disch:=first|omega|assumption) only [qae,qaw,qam,qad,qau,qab,qah,List.take_left']);refine qal ?_)
         rfl
       ·have gb0:¬ 0≤idxStr x.p da.po 0:=fun h=>ga (hia.1 h)
        rw [decide_eq_false ga,Bool.and_false,Bool.false_and]
        (repeat' first|(with_reducible first|apply qac|apply qa3|apply qaz|apply qa1|apply tp_gs0|apply tp_gs1|apply qai|apply qag (b:=true)|apply qag (b:=false)|apply qaa (b:=true)|apply qaa (b:=false)|apply qap|apply qan|apply qbd|apply qbj|apply qbq|apply qba|(apply qas;omega)|(apply qa2;omega)|(apply qbo;omega)|(apply qb8;omega)|(apply qbn;omega))|((conv=>arg 2;arg 1;simp (disch:=first|omega|assumption) only [qaq,qak,qaf,qbt,qav,qa4,Nat.zero_add,Nat.add_zero,qbp,List.length_append,List.length_cons,List.length_nil,Bool.not_true,qbc,qat,qa0,qbs,qbl,qbf,ld_sh,qa7,ldc0,ldcS,sto_sh,stoc0,stocS,List.length_map,sameAd_ref,topbx,hx,cellLnk,lnkcA,lnk_lay,lnkc0,lnkc1,lnkc2,lnkc3,topc1,topc2,sameAd_peek,get_top,hda,hea,hsa,r132,hca,hge]);(with_reducible first|apply qac|apply qbg|apply qag (b:=false)|apply qaa (b:=true)|apply qaa (b:=false))))
        ((try conv=>arg 2;simp (disch:=first|omega|assumption) only [qae,qaw,qam,qad,qau,qab,qah,List.take_left']);refine qal ?_)
        rfl
      ·obtain ⟨y,ha,hym,hix⟩:=lnk_ahead h0 h1
       have hbf:=fun A=>s131 y x A
       have hcy:∀ y,(encLnk y).canon=encLnk y:=fun y=>(plainLnk y).canon
       have hbo:befO (aheadL t.ls i) x=y.bef x:=by rw [ha];rfl
       cases hb:y.bef x
       ·rw [hb] at hbf hbo
        rw [no (.inr hbo)]
        (repeat' first|(with_reducible first|apply qac|apply qa3|apply qaz|apply qa1|apply tp_gs0|apply tp_gs1|apply qai|apply qag (b:=true)|apply qag (b:=false)|apply qaa (b:=true)|apply qaa (b:=false)|apply qap|apply qbd|apply qba|(apply qa2;omega)|(apply qbx;omega)|(apply qbo;omega)|(apply qb8;omega)|(apply qbn;omega))|((conv=>arg 2;arg 1;simp (disch:=first|omega|assumption) only [qaq,qak,qb9,qa5,qaf,qav,Nat.zero_add,Nat.add_zero,qbp,List.length_append,List.length_cons,List.length_nil,qb5,Bool.not_true,Bool.not_false,qbc,qa0,qbs,qbl,qbf,ld_sh,qa7,ldc0,ldcS,sto_sh,stoc0,stocS,List.length_map,sameAd_ref,topbx,hx,cellLnk,lnkcA,lnk_lay,lnkc0,lnkc1,lnkc2,lnkc3,topc1,topc2,sameAd_peek,get_top,hix,hcy,r131,hbf,hge]);(with_reducible first|apply qac|apply qbg|apply qag (b:=false)|apply qaa (b:=true)|apply qaa (b:=false))))
        ((try conv=>arg 2;simp (disch:=first|omega|assumption) only [qae,qaw,qam,qad,qau,qab,qah,List.take_left']);refine qal ?_)
        rfl
       ·rw [hb] at hbf hbo
        rw [yes hsp hbo]
        by_cases ga:x.p ∈ da.po
        ·have gb0:=hia.2 ga
         by_cases gb:x.q ∈ db.po
         ·have gb1:=hib.2 gb
          rw [decide_eq_true ga,decide_eq_true gb,Bool.and_true,Bool.and_true]
          (repeat' first|(with_reducible first|apply qac|apply qa3|apply qaz|apply qa1|apply tp_gs0|apply tp_gs1|apply qag (b:=true)|apply qag (b:=false)|apply qaa (b:=true)|apply qaa (b:=false)|apply qan|apply qbd|apply qba|(apply qa2;omega)|(apply qbx;omega)|(apply qbo;omega)|(apply qb8;omega)|(apply qbn;omega))|((conv=>arg 2;arg 1;simp (disch:=first|omega|assumption) only [qaq,qak,qb9,qa5,qaf,qbt,qav,qa4,Nat.zero_add,Nat.add_zero,qbp,List.length_append,List.length_cons,List.length_nil,qb5,Bool.not_true,qbc,qat,qa0,qbs,qbl,qbf,ld_sh,qa7,ldc0,ldcS,sto_sh,stoc0,stocS,List.length_map,sameAd_ref,topbx,hx,cellLnk,lnkcA,lnk_lay,lnkc0,lnkc1,lnkc2,lnkc3,topc1,topc2,sameAd_peek,get_top,hda,hdb,hea,heb,hsa,hsb,r132,hca,hcb,hix,hcy,r131,hbf,hge]);(with_reducible first|apply qac|apply qbg|apply qag (b:=false)|apply qaa (b:=false))))
          (refine qay ?_;(conv=>lhs;simp only []);exact hlo)
         ·have gb1:¬ 0≤idxStr x.q db.po 0:=fun h=>gb (hib.1 h)
          rw [decide_eq_false gb,Bool.and_false,Bool.and_false]
          (repeat' first|(with_reducible first|apply qac|apply qa3|apply qaz|apply qa1|apply tp_gs0|apply tp_gs1|apply qai|apply qag (b:=true)|apply qag (b:=false)|apply qaa (b:=true)|apply qaa (b:=false)|apply qap|apply qan|apply qbd|apply qba|(apply qas;omega)|(apply qa2;omega)|(apply qbx;omega)|(apply qbo;omega)|(apply qb8;omega)|(apply qbn;omega))|((conv=>arg 2;arg 1;simp (disch:=first|omega|assumption) only [qaq,qak,qb9,qa5,qaf,qbt,qav,qa4,Nat.zero_add,Nat.add_zero,qbp,List.length_append,List.length_cons,List.length_nil,qb5,Bool.not_true,qbc,qat,qa0,qbs,qbl,qbf,ld_sh,qa7,ldc0,ldcS,sto_sh,stoc0,stocS,List.length_map,sameAd_ref,topbx,hx,cellLnk,lnkcA,lnk_lay,lnkc0,lnkc1,lnkc2,lnkc3,topc1,topc2,sameAd_peek,get_top,hda,hdb,hea,heb,hsa,hsb,r132,hca,hcb,hix,hcy,r131,hbf,hge]);(with_reducible first|apply qac|apply qbg|apply qag (b:=false)|apply qaa (b:=true)|apply qaa (b:=false))))
          ((try conv=>arg 2;simp (disch:=first|omega|assumption) only [qae,qaw,qam,qad,qau,qab,qah,List.take_left']);refine qal ?_)
          rfl
        ·have gb0:¬ 0≤idxStr x.p da.po 0:=fun h=>ga (hia.1 h)
         rw [decide_eq_false ga,Bool.and_false,Bool.false_and]
         (repeat' first|(with_reducible first|apply qac|apply qa3|apply qaz|apply qa1|apply tp_gs0|apply tp_gs1|apply qai|apply qag (b:=true)|apply qag (b:=false)|apply qaa (b:=true)|apply qaa (b:=false)|apply qap|apply qan|apply qbd|apply qbq|apply qba|(apply qas;omega)|(apply qa2;omega)|(apply qbx;omega)|(apply qbo;omega)|(apply qb8;omega)|(apply qbn;omega))|((conv=>arg 2;arg 1;simp (disch:=first|omega|assumption) only [qaq,qak,qb9,qa5,qaf,qbt,qav,qa4,Nat.zero_add,Nat.add_zero,qbp,List.length_append,List.length_cons,List.length_nil,qb5,Bool.not_true,qbc,qat,qa0,qbs,qbl,qbf,ld_sh,qa7,ldc0,ldcS,sto_sh,stoc0,stocS,List.length_map,sameAd_ref,topbx,hx,cellLnk,lnkcA,lnk_lay,lnkc0,lnkc1,lnkc2,lnkc3,topc1,topc2,sameAd_peek,get_top,hda,hea,hsa,r132,hca,hix,hcy,r131,hbf,hge]);(with_reducible first|apply qac|apply qbg|apply qag (b:=false)|apply qaa (b:=true)|apply qaa (b:=false))))
         ((try conv=>arg 2;simp (disch:=first|omega|assumption) only [qae,qaw,qam,qad,qau,qab,qah,List.take_left']);refine qal ?_)
         rfl
     ·rw [decide_eq_false g5] at hge
      rw [no (.inl (by unfold shapeT;exact decide_eq_false (fun h=>g5 (h.2.2.2 g4))))]
      (repeat' first|(with_reducible first|apply qac|apply qa3|apply qaz|apply qa1|apply tp_gs0|apply tp_gs1|apply qai|apply qag (b:=true)|apply qag (b:=false)|apply tot_gbn|apply qaa (b:=true)|apply qaa (b:=false)|apply qap|apply qan|apply qbd|apply qbq|apply qba|(apply qa2;omega)|(apply qbo;omega)|(apply qb8;omega)|(apply qbn;omega))|((conv=>arg 2;arg 1;simp (disch:=first|omega|assumption) only [qaq,qak,qaf,qav,Nat.zero_add,Nat.add_zero,qbp,List.length_append,List.length_cons,List.length_nil,Bool.not_false,qbc,qa0,qbs,qbl,qbf,ld_sh,qa7,ldc0,ldcS,sto_sh,stoc0,stocS,List.length_map,sameAd_ref,topbx,hx,cellLnk,lnkcA,lnk_lay,lnkc0,lnkc1,lnkc2,lnkc3,topc1,topc2,sameAd_peek,get_top,hge]);(with_reducible first|apply qac|apply qbg|apply qag (b:=true)|apply qag (b:=false)|apply qaa (b:=true)|apply qaa (b:=false))))
      ((try conv=>arg 2;simp (disch:=first|omega|assumption) only [qae,qaw,qam,qad,qau,qab,qah,List.take_left']);refine qal ?_)
      rfl
    ·clear hge
     have hsp:shapeT t.ds.length x=true:=by unfold shapeT;exact decide_eq_true ⟨by omega,by omega,by omega,fun h=>absurd h g4⟩
     by_cases h0:i=0
     ·have hbo:befO (aheadL t.ls i) x=true:=by rw [h0];rfl
      rw [yes hsp hbo]
      by_cases ga:x.p ∈ da.po
      ·have gb0:=hia.2 ga
       by_cases gb:x.q ∈ db.po
       ·have gb1:=hib.2 gb
        rw [decide_eq_true ga,decide_eq_true gb,Bool.and_true,Bool.and_true]
        (repeat' first|(with_reducible first|apply qac|apply qa3|apply qaz|apply qa1|apply tp_gs0|apply tp_gs1|apply qag (b:=false)|apply qaa (b:=false)|apply qan|apply qbj|apply qba|(apply qa2;omega)|(apply qbo;omega)|(apply qb8;omega)|(apply qbw;omega))|((conv=>arg 2;arg 1;simp (disch:=first|omega|assumption) only [qak,qaf,qbt,qav,qa4,Nat.zero_add,Nat.add_zero,qbp,List.length_append,List.length_cons,List.length_nil,qbc,qat,qa0,qbs,qbl,qbf,ld_sh,qa7,ldc0,ldcS,sto_sh,stoc0,stocS,List.length_map,sameAd_ref,topbx,hx,cellLnk,lnkcA,lnk_lay,lnkc0,lnkc1,lnkc2,lnkc3,topc1,topc2,sameAd_peek,get_top,hda,hdb,hea,heb,hsa,hsb,r132,hca,hcb]);(with_reducible first|apply qac|apply qbg|apply qag (b:=false)|apply qaa (b:=false))))
        (refine qay ?_;(conv=>lhs;simp only []);exact hlo)
       ·have gb1:¬ 0≤idxStr x.q db.po 0:=fun h=>gb (hib.1 h)
        rw [decide_eq_false gb,Bool.and_false,Bool.and_false]
        (repeat' first|(with_reducible first|apply qac|apply qa3|apply qaz|apply qa1|apply tp_gs0|apply tp_gs1|apply qai|apply qag (b:=false)|apply qaa (b:=false)|apply qap|apply qan|apply qbj|apply qba|(apply qas;omega)|(apply qa2;omega)|(apply qbo;omega)|(apply qb8;omega)|(apply qbw;omega))|((conv=>arg 2;arg 1;simp (disch:=first|omega|assumption) only [qak,qaf,qbt,qav,qa4,Nat.zero_add,Nat.add_zero,qbp,List.length_append,List.length_cons,List.length_nil,qbc,qat,qa0,qbs,qbl,qbf,ld_sh,qa7,ldc0,ldcS,sto_sh,stoc0,stocS,List.length_map,sameAd_ref,topbx,hx,cellLnk,lnkcA,lnk_lay,lnkc0,lnkc1,lnkc2,lnkc3,topc1,topc2,sameAd_peek,get_top,hda,hdb,hea,heb,hsa,hsb,r132,hca,hcb]);(with_reducible first|apply qac|apply qbg|apply qag (b:=false)|apply qaa (b:=true)|apply qaa (b:=false))))
        ((try conv=>arg 2;simp (disch:=first|omega|assumption) only [qae,qaw,qam,qad,qau,qab,qah,List.take_left']);refine qal ?_)
        rfl
      ·have gb0:¬ 0≤idxStr x.p da.po 0:=fun h=>ga (hia.1 h)
       rw [decide_eq_false ga,Bool.and_false,Bool.false_and]
       (repeat' first|(with_reducible first|apply qac|apply qa3|apply qaz|apply qa1|apply tp_gs0|apply tp_gs1|apply qai|apply qag (b:=true)|apply qag (b:=false)|apply qaa (b:=true)|apply qaa (b:=false)|apply qap|apply qan|apply qbj|apply qbq|apply qba|(apply qas;omega)|(apply qa2;omega)|(apply qbo;omega)|(apply qb8;omega)|(apply qbw;omega))|((conv=>arg 2;arg 1;simp (disch:=first|omega|assumption) only [qaq,qak,qaf,qbt,qav,qa4,Nat.zero_add,Nat.add_zero,qbp,List.length_append,List.length_cons,List.length_nil,qbc,qat,qa0,qbs,qbl,qbf,ld_sh,qa7,ldc0,ldcS,sto_sh,stoc0,stocS,List.length_map,sameAd_ref,topbx,hx,cellLnk,lnkcA,lnk_lay,lnkc0,lnkc1,lnkc2,topc1,topc2,sameAd_peek,get_top,hda,hea,hsa,r132,hca]);(with_reducible first|apply qac|apply qbg|apply qag (b:=false)|apply qaa (b:=true)|apply qaa (b:=false))))
       ((try conv=>arg 2;simp (disch:=first|omega|assumption) only [qae,qaw,qam,qad,qau,qab,qah,List.take_left']);refine qal ?_)
       rfl
     ·obtain ⟨y,ha,hym,hix⟩:=lnk_ahead h0 h1
      have hbf:=fun A=>s131 y x A
      have hcy:∀ y,(encLnk y).canon=encLnk y:=fun y=>(plainLnk y).canon
      have hbo:befO (aheadL t.ls i) x=y.bef x:=by rw [ha];rfl
      cases hb:y.bef x
      ·rw [hb] at hbf hbo
       rw [no (.inr hbo)]
       (repeat' first|(with_reducible first|apply qac|apply qa3|apply qaz|apply qa1|apply tp_gs0|apply tp_gs1|apply qai|apply qag (b:=true)|apply qag (b:=false)|apply qaa (b:=true)|apply qaa (b:=false)|apply qap|apply qbd|apply qbj|apply qba|(apply qa2;omega)|(apply qbx;omega)|(apply qbo;omega)|(apply qb8;omega)|(apply qbw;omega))|((conv=>arg 2;arg 1;simp (disch:=first|omega|assumption) only [qaq,qak,qb9,qa5,qaf,qav,Nat.zero_add,Nat.add_zero,qbp,List.length_append,List.length_cons,List.length_nil,qb5,Bool.not_false,qbc,qa0,qbs,qbl,qbf,ld_sh,qa7,ldc0,ldcS,sto_sh,stoc0,stocS,List.length_map,sameAd_ref,topbx,hx,cellLnk,lnkcA,lnk_lay,lnkc0,lnkc2,topc1,topc2,sameAd_peek,get_top,hix,hcy,r131,hbf]);(with_reducible first|apply qac|apply qbg|apply qag (b:=false)|apply qaa (b:=true)|apply qaa (b:=false))))
       ((try conv=>arg 2;simp (disch:=first|omega|assumption) only [qae,qaw,qam,qad,qau,qab,qah,List.take_left']);refine qal ?_)
       rfl
      ·rw [hb] at hbf hbo
       rw [yes hsp hbo]
       by_cases ga:x.p ∈ da.po
       ·have gb0:=hia.2 ga
        by_cases gb:x.q ∈ db.po
        ·have gb1:=hib.2 gb
         rw [decide_eq_true ga,decide_eq_true gb,Bool.and_true,Bool.and_true]
         (repeat' first|(with_reducible first|apply qac|apply qa3|apply qaz|apply qa1|apply tp_gs0|apply tp_gs1|apply qag (b:=true)|apply qag (b:=false)|apply qaa (b:=true)|apply qaa (b:=false)|apply qan|apply qbd|apply qbj|apply qba|(apply qa2;omega)|(apply qbx;omega)|(apply qbo;omega)|(apply qb8;omega)|(apply qbw;omega))|((conv=>arg 2;arg 1;simp (disch:=first|omega|assumption) only [qaq,qak,qb9,qa5,qaf,qbt,qav,qa4,Nat.zero_add,Nat.add_zero,qbp,List.length_append,List.length_cons,List.length_nil,qb5,Bool.not_true,qbc,qat,qa0,qbs,qbl,qbf,ld_sh,qa7,ldc0,ldcS,sto_sh,stoc0,stocS,List.length_map,sameAd_ref,topbx,hx,cellLnk,lnkcA,lnk_lay,lnkc0,lnkc1,lnkc2,lnkc3,topc1,topc2,sameAd_peek,get_top,hda,hdb,hea,heb,hsa,hsb,r132,hca,hcb,hix,hcy,r131,hbf]);(with_reducible first|apply qac|apply qbg|apply qag (b:=false)|apply qaa (b:=false))))
         (refine qay ?_;(conv=>lhs;simp only []);exact hlo)
        ·have gb1:¬ 0≤idxStr x.q db.po 0:=fun h=>gb (hib.1 h)
         rw [decide_eq_false gb,Bool.and_false,Bool.and_false]
         (repeat' first|(with_reducible first|apply qac|apply qa3|apply qaz|apply qa1|apply tp_gs0|apply tp_gs1|apply qai|apply qag (b:=true)|apply qag (b:=false)|apply qaa (b:=true)|apply qaa (b:=false)|apply qap|apply qan|apply qbd|apply qbj|apply qba|(apply qas;omega)|(apply qa2;omega)|(apply qbx;omega)|(apply qbo;omega)|(apply qb8;omega)|(apply qbw;omega))|((conv=>arg 2;arg 1;simp (disch:=first|omega|assumption) only [qaq,qak,qb9,qa5,qaf,qbt,qav,qa4,Nat.zero_add,Nat.add_zero,qbp,List.length_append,List.length_cons,List.length_nil,qb5,Bool.not_true,qbc,qat,qa0,qbs,qbl,qbf,ld_sh,qa7,ldc0,ldcS,sto_sh,stoc0,stocS,List.length_map,sameAd_ref,topbx,hx,cellLnk,lnkcA,lnk_lay,lnkc0,lnkc1,lnkc2,lnkc3,topc1,topc2,sameAd_peek,get_top,hda,hdb,hea,heb,hsa,hsb,r132,hca,hcb,hix,hcy,r131,hbf]);(with_reducible first|apply qac|apply qbg|apply qag (b:=false)|apply qaa (b:=true)|apply qaa (b:=false))))
         ((try conv=>arg 2;simp (disch:=first|omega|assumption) only [qae,qaw,qam,qad,qau,qab,qah,List.take_left']);refine qal ?_)
         rfl
       ·have gb0:¬ 0≤idxStr x.p da.po 0:=fun h=>ga (hia.1 h)
        rw [decide_eq_false ga,Bool.and_false,Bool.false_and]
        (repeat' first|(with_reducible first|apply qac|apply qa3|apply qaz|apply qa1|apply tp_gs0|apply tp_gs1|apply qai|apply qag (b:=true)|apply qag (b:=false)|apply qaa (b:=true)|apply qaa (b:=false)|apply qap|apply qan|apply qbd|apply qbj|apply qbq|apply qba|(apply qas;omega)|(apply qa2;omega)|(apply qbx;omega)|(apply qbo;omega)|(apply qb8;omega)|(apply qbw;omega))|((conv=>arg 2;arg 1;simp (disch:=first|omega|assumption) only [qaq,qak,qb9,qa5,qaf,qbt,qav,qa4,Nat.zero_add,Nat.add_zero,qbp,List.length_append,List.length_cons,List.length_nil,qb5,Bool.not_true,qbc,qat,qa0,qbs,qbl,qbf,ld_sh,qa7,ldc0,ldcS,sto_sh,stoc0,stocS,List.length_map,sameAd_ref,topbx,hx,cellLnk,lnkcA,lnk_lay,lnkc0,lnkc1,lnkc2,topc1,topc2,sameAd_peek,get_top,hda,hea,hsa,r132,hca,hix,hcy,r131,hbf]);(with_reducible first|apply qac|apply qbg|apply qag (b:=false)|apply qaa (b:=true)|apply qaa (b:=false))))
        ((try conv=>arg 2;simp (disch:=first|omega|assumption) only [qae,qaw,qam,qad,qau,qab,qah,List.take_left']);refine qal ?_)
        rfl
theorem s56_links:∀ (u:List Lnk) (i:Nat),t.ls.drop i=u→i≤t.ls.length →
  LP Tryz.prog rxA 56 [0,1,0,1,1,1] [A] (Env.mk (sp [(1,.ref A.length 0),(3,.int .i64 (i:Nat))] 81) []) (A++[.cells (topC t)])=some (.ret (.int .i64 (if lnksT t.ds (aheadL t.ls i) (endsT (t.ls.take i)) u=true then 0 else 113)),A):=by
 have hll:=hok.ls.1
 have hr1:(D.ref A.length 0).shut (A.length+1)=.ref A.length 0:=shut_ref _ (by omega)
 have hct:(encTop t).canon=encTop t:=(plainTop t).canon
 intro u
 induction u with
 | nil =>
  intro i ht hi
  have h1:=qb1 ht
  refine qbb (qbh (q56_1 ..) ?_)
  unfold n56_1;dsimp only
  (repeat' first|(with_reducible first|apply qa3|apply qai|apply qaa (b:=false)|apply qan)|((conv=>arg 2;arg 1;simp (disch:=first|omega|assumption) only [Option.map_some,qax,qaf,Nat.zero_add,qa6,qa9,qa8,qa0,qa7,ldc0,List.length_map,topc2]);(with_reducible first|apply qac|(apply qa2;omega))))
  ((try conv=>arg 2;simp (disch:=first|omega|assumption) only [qae,qao,qam,qad,qaj,qab,qah,List.take_left']);refine qal ?_)
  simp [lnksT]
 | cons x u ih =>
  intro i ht hi
  have h1:=qbz ht
  have hl:=fun A=>s104 t hok A x u i ht
  have hah:=aheadL_succ ht
  have hih:=ih (i+1) (qbi ht) (by omega)
  have hen:endsT (t.ls.take (i+1))=endsT (t.ls.take i)++[(x.a,x.p),(x.b,x.q)]:=by
   have:=List.drop_eq_getElem_cons h1
   rw [ht] at this
   rw [List.take_add_one,List.getElem?_eq_getElem h1,Option.toList_some,endsT_app,← (List.cons.inj this).1];rfl
  rw [hah,hen] at hih
  rw [lnksT_cons]
  refine qbb (qbh (q56_1 ..) ?_)
  unfold n56_1;dsimp only
  cases hq:lnkT t.ds (aheadL t.ls i) (endsT (t.ls.take i)) x
  ·rw [hq] at hl
   (repeat' first|(with_reducible first|apply qa3|apply qa1|apply qai|apply qaa (b:=true)|apply qap)|((conv=>arg 2;arg 1;simp (disch:=first|omega|assumption) only [Option.map_some,qax,qaf,Nat.zero_add,qb5,Bool.not_false,qa6,qa9,qa8,qaj,qa0,qa7,ldc0,List.length_map,topc2,topcA,hct,r104,hl]);(with_reducible first|apply qac|(apply qas;omega))))
   ((try conv=>arg 2;simp (disch:=first|omega|assumption) only [qae,qao,qam,qad,qaj,qab,qah,List.take_left']);refine qal ?_)
   simp
  ·rw [hq] at hl
   rw [Bool.true_and]
   (repeat' first|(with_reducible first|apply qa3|apply qa1|apply tp_gk|apply qaa (b:=true)|apply qaa (b:=false)|apply qap|apply qan)|((conv=>arg 2;arg 1;simp (disch:=first|omega|assumption) only [qbe,qa5,qar,qaf,Nat.zero_add,qb5,Bool.not_true,qa6,qa9,qa8,qaj,qa0,qa7,ldc0,List.length_map,topc2,topcA,hct,r104,hl]);(with_reducible first|apply qac|apply qbg|(apply qas;omega))))
   refine qay ?_
   conv=>lhs;simp (disch:=first|omega|assumption) only [qao,qbr,List.map_nil,Nat.zero_add,List.length_append,List.length_cons,List.length_nil,qa6,qa9,take_n1,hr1]
   simpa using hih
theorem s56_loop:∀ (u:List Dev) (i:Nat),t.ds.drop i=u→i≤t.ds.length →
  LP Tryz.prog rxA 56 [0,1,0,1,1] [A] (Env.mk (sp [(1,.ref A.length 0),(1,.int .i64 (i:Nat))] 83) []) (A++[.cells (topC t)]) =
   some (.ret (.int .i64 (if (devsT (aheadD t.ds i) u && lnksT t.ds none [] t.ls)=true then 0 else 113)),A):=by
 have hdl:=hok.ds.1
 have hr1:(D.ref A.length 0).shut (A.length+1)=.ref A.length 0:=shut_ref _ (by omega)
 intro u
 induction u with
 | nil =>
  intro i ht hi
  have h1:=qb1 ht
  have hlo:=s56_links t hok A t.ls 0 rfl (by omega)
  refine qbb (qbh (q56_0 ..) ?_)
  unfold n56_0;dsimp only
  (repeat' first|(with_reducible first|apply qa3|apply qaa (b:=false)|apply qan)|((conv=>arg 2;arg 1;simp (disch:=first|omega|assumption) only [qaf,Nat.zero_add,qa6,qa9,qa8,qa0,qa7,ldc0,List.length_map,topc1]);(with_reducible first|apply qac|(apply qa2;omega))))
  (refine qay ?_;(conv=>lhs;simp only [qa6,qa9]);simpa [devsT,endsT,aheadL] using hlo)
 | cons x u ih =>
  intro i ht hi
  have h1:=qbz ht
  have hx:=qb6 (f:=encDev) ht 3 true .i64
  have hah:=aheadD_succ ht
  have hih:=ih (i+1) (qbi ht) (by omega)
  rw [hah] at hih
  have hxo:=hok.ds.2 x (drop_mem ht)
  have hn:=fun A=>s48 x.nm (by have:=hxo.nm;omega) A
  have hr1':=fun A=>s103 x.cl hxo.cl.1 hxo.cl.2 16 A
  have hr2':=fun A=>s103 x.po hxo.po.1 hxo.po.2 64 A
  have hs1:=str_canon x.cl 1
  have hs2:=str_canon x.po 1
  rw [devsT_cons]
  have fail:devT (aheadD t.ds i) x=false→(if (devT (aheadD t.ds i) x && devsT (some x.nm) u && lnksT t.ds none [] t.ls)=true then (0:Int) else 113)=113:=by
   intro h;rw [h];simp
  have okd:devT (aheadD t.ds i) x=true→(if (devT (aheadD t.ds i) x && devsT (some x.nm) u && lnksT t.ds none [] t.ls)=true then (0:Int) else 113)=if (devsT (some x.nm) u && lnksT t.ds none [] t.ls)=true then 0 else 113:=by
   intro h;rw [h,Bool.true_and]
  refine qbb (qbh (q56_0 ..) ?_)
  unfold n56_0;dsimp only
  cases hnx:isName x.nm
  ·rw [hnx] at hn
   rw [fail (by unfold devT;rw [hnx];simp)]
   (repeat' first|(with_reducible first|apply qac|apply qa3|apply qaz|apply qa1|apply qai|apply qag (b:=true)|apply tot_gbn|apply qaa (b:=true)|apply qap|apply qan|apply qbq)|((conv=>arg 2;arg 1;simp (disch:=first|omega|assumption) only [qaq,Option.map_some,qax,qaf,qav,Nat.zero_add,Nat.add_zero,qbp,List.length_append,List.length_cons,List.length_nil,qb5,Bool.not_false,qa6,qa9,qa8,qbc,qat,qa0,qbs,qbl,qbf,ld_sh,qa7,ldc0,ldcS,sto_sh,stoc0,stocS,List.length_map,hx,cellDev,devcA,dev_lay,devc0,topc1,r48,hn]);(with_reducible first|apply qac|apply qag (b:=true)|apply qaa (b:=true)|(apply qas;omega))))
   ((try conv=>arg 2;simp (disch:=first|omega|assumption) only [qae,qao,qam,qad,qaj,qab,qah,List.take_left']);refine qal ?_)
   rfl
  ·rw [hnx] at hn
   by_cases h0:i=0
   ·subst h0
    have hle:lessO (aheadD t.ds 0) x.nm=true:=rfl
    cases hc:namesT x.cl 16
    ·rw [hc] at hr1'
     rw [fail (by unfold devT;rw [hc];simp)]
     (repeat' first|(with_reducible first|apply qac|apply qa3|apply qaz|apply qa1|apply qai|apply qag (b:=false)|apply qaa (b:=true)|apply qaa (b:=false)|apply qap|apply qbj|apply qbq|apply qba)|((conv=>arg 2;arg 1;simp (disch:=first|omega|assumption) only [qaq,qak,Option.map_some,qax,qaf,qav,Nat.zero_add,Nat.add_zero,qbp,List.length_append,List.length_cons,List.length_nil,qb5,Bool.not_true,Bool.not_false,qa6,qa9,qa8,qbc,qaj,qat,qa0,qbs,qbl,qbf,ld_sh,qa7,ldc0,ldcS,sto_sh,stoc0,stocS,List.length_map,hx,cellDev,devcA,dev_lay,devc0,devc1,topc1,hs1,r48,hn,r103,hr1']);(with_reducible first|apply qac|apply qag (b:=true)|apply qag (b:=false)|apply qaa (b:=true)|apply qaa (b:=false)|(apply qas;omega)|(apply qbo;omega))))
     ((try conv=>arg 2;simp (disch:=first|omega|assumption) only [qae,qao,qam,qad,qaj,qab,qah,List.take_left']);refine qal ?_)
     rfl
    ·rw [hc] at hr1'
     cases hp:namesT x.po 64
     ·rw [hp] at hr2'
      rw [fail (by unfold devT;rw [hp];simp)]
      (repeat' first|(with_reducible first|apply qac|apply qa3|apply qaz|apply qa1|apply qai|apply qag (b:=false)|apply qaa (b:=true)|apply qaa (b:=false)|apply qap|apply qbj|apply qba)|((conv=>arg 2;arg 1;simp (disch:=first|omega|assumption) only [qak,Option.map_some,qax,qaf,qav,Nat.zero_add,Nat.add_zero,qbp,List.length_append,List.length_cons,List.length_nil,qb5,Bool.not_true,Bool.not_false,qa6,qa9,qa8,qbc,qaj,qat,qa0,qbs,qbl,qbf,ld_sh,qa7,ldc0,ldcS,sto_sh,stoc0,stocS,List.length_map,hx,cellDev,devcA,dev_lay,devc0,devc1,devc2,topc1,hs1,hs2,r48,hn,r103,hr1',hr2']);(with_reducible first|apply qac|apply qag (b:=false)|apply qaa (b:=true)|apply qaa (b:=false)|(apply qas;omega)|(apply qbo;omega))))
      ((try conv=>arg 2;simp (disch:=first|omega|assumption) only [qae,qao,qam,qad,qaj,qab,qah,List.take_left']);refine qal ?_)
      rfl
     ·rw [hp] at hr2'
      rw [okd (by unfold devT;rw [hnx,hc,hp,hle];rfl)]
      (repeat' first|(with_reducible first|apply qac|apply qa3|apply qaz|apply qa1|apply tp_gk|apply qag (b:=false)|apply qaa (b:=true)|apply qaa (b:=false)|apply qap|apply qan|apply qbj|apply qba)|((conv=>arg 2;arg 1;simp (disch:=first|omega|assumption) only [qak,qbe,qa5,qaf,qav,Nat.zero_add,Nat.add_zero,qbp,List.length_append,List.length_cons,List.length_nil,qb5,Bool.not_true,qa6,qa9,qa8,qbc,qaj,qat,qa0,qbs,qbl,qbf,ld_sh,qa7,ldc0,ldcS,sto_sh,stoc0,stocS,List.length_map,Kept_n1,hx,cellDev,devcA,dev_lay,devc0,devc1,devc2,topc1,hs1,hs2,r48,hn,r103,hr1',hr2']);(with_reducible first|apply qac|apply qbg|apply qag (b:=false)|apply qaa (b:=false)|(apply qas;omega)|(apply qbo;omega))))
      refine qay ?_
      conv=>lhs;simp (disch:=first|omega|assumption) only [qao,qbr,List.map_nil,Nat.zero_add,List.length_append,List.length_cons,List.length_nil,qa6,qa9,take_n1,hr1]
      simpa using hih
   ·obtain ⟨y,ha,hix⟩:=dev_ahead h0 h1
    have hls:=sgeq 3 false y.nm x.nm
    have hle:lessO (aheadD t.ds i) x.nm=decide (y.nm<x.nm):=by rw [ha];rfl
    cases hlt:decide (y.nm<x.nm)
    ·rw [hlt] at hls hle
     rw [fail (by unfold devT;rw [hle];simp)]
     (repeat' first|(with_reducible first|apply qac|apply qa3|apply qaz|apply qa1|apply qai|apply qag (b:=true)|apply qag (b:=false)|apply qaa (b:=true)|apply qaa (b:=false)|apply qap|apply qbd|apply qbq|apply qba)|((conv=>arg 2;arg 1;simp (disch:=first|omega|assumption) only [qaq,qak,Option.map_some,qb9,qa5,qax,qaf,qbt,qav,List.drop_zero,Nat.zero_add,Nat.add_zero,qbp,List.length_append,List.length_cons,List.length_nil,qb5,Bool.not_true,Bool.not_false,qa6,qa9,qa8,qbc,qat,qa0,qbs,qbl,qbf,ld_sh,qa7,ldc0,ldcS,sto_sh,stoc0,stocS,List.length_map,hx,cellDev,devcA,dev_lay,devc0,topc1,r48,hn,hix,hls]);(with_reducible first|apply qac|apply qag (b:=true)|apply qaa (b:=true)|(apply qas;omega)|(apply qbx;omega))))
     ((try conv=>arg 2;simp (disch:=first|omega|assumption) only [qae,qao,qam,qad,qaj,qab,qah,List.take_left']);refine qal ?_)
     rfl
    ·rw [hlt] at hls hle
     cases hc:namesT x.cl 16
     ·rw [hc] at hr1'
      rw [fail (by unfold devT;rw [hc];simp)]
      (repeat' first|(with_reducible first|apply qac|apply qa3|apply qaz|apply qa1|apply qai|apply qag (b:=true)|apply qag (b:=false)|apply qaa (b:=true)|apply qaa (b:=false)|apply qap|apply qbd|apply qbq|apply qba)|((conv=>arg 2;arg 1;simp (disch:=first|omega|assumption) only [qaq,qak,Option.map_some,qb9,qa5,qax,qaf,qbt,qav,List.drop_zero,Nat.zero_add,Nat.add_zero,qbp,List.length_append,List.length_cons,List.length_nil,qb5,Bool.not_true,Bool.not_false,qa6,qa9,qa8,qbc,qaj,qat,qa0,qbs,qbl,qbf,ld_sh,qa7,ldc0,ldcS,sto_sh,stoc0,stocS,List.length_map,hx,cellDev,devcA,dev_lay,devc0,devc1,topc1,hs1,r48,hn,r103,hr1',hix,hls]);(with_reducible first|apply qac|apply qag (b:=true)|apply qag (b:=false)|apply qaa (b:=true)|apply qaa (b:=false)|(apply qas;omega)|(apply qbx;omega))))
      ((try conv=>arg 2;simp (disch:=first|omega|assumption) only [qae,qao,qam,qad,qaj,qab,qah,List.take_left']);refine qal ?_)
      rfl
     ·rw [hc] at hr1'
      cases hp:namesT x.po 64
      ·rw [hp] at hr2'
       rw [fail (by unfold devT;rw [hp];simp)]
       (repeat' first|(with_reducible first|apply qac|apply qa3|apply qaz|apply qa1|apply qai|apply qag (b:=true)|apply qag (b:=false)|apply qaa (b:=true)|apply qaa (b:=false)|apply qap|apply qbd|apply qba)|((conv=>arg 2;arg 1;simp (disch:=first|omega|assumption) only [qaq,qak,Option.map_some,qb9,qa5,qax,qaf,qbt,qav,List.drop_zero,Nat.zero_add,Nat.add_zero,qbp,List.length_append,List.length_cons,List.length_nil,qb5,Bool.not_true,Bool.not_false,qa6,qa9,qa8,qbc,qaj,qat,qa0,qbs,qbl,qbf,ld_sh,qa7,ldc0,ldcS,sto_sh,stoc0,stocS,List.length_map,hx,cellDev,devcA,dev_lay,devc0,devc1,devc2,topc1,hs1,hs2,r48,hn,r103,hr1',hr2',hix,hls]);(with_reducible first|apply qac|apply qag (b:=false)|apply qaa (b:=true)|apply qaa (b:=false)|(apply qas;omega)|(apply qbx;omega))))
       ((try conv=>arg 2;simp (disch:=first|omega|assumption) only [qae,qao,qam,qad,qaj,qab,qah,List.take_left']);refine qal ?_)
       rfl
      ·rw [hp] at hr2'
       rw [okd (by unfold devT;rw [hnx,hc,hp,hle];rfl)]
       (repeat' first|(with_reducible first|apply qac|apply qa3|apply qaz|apply qa1|apply tp_gk|apply qag (b:=true)|apply qag (b:=false)|apply qaa (b:=true)|apply qaa (b:=false)|apply qap|apply qan|apply qbd|apply qba)|((conv=>arg 2;arg 1;simp (disch:=first|omega|assumption) only [qaq,qak,qbe,qb9,qa5,qaf,qbt,qav,List.drop_zero,Nat.zero_add,Nat.add_zero,qbp,List.length_append,List.length_cons,List.length_nil,qb5,Bool.not_true,qa6,qa9,qa8,qbc,qaj,qat,qa0,qbs,qbl,qbf,ld_sh,qa7,ldc0,ldcS,sto_sh,stoc0,stocS,List.length_map,Kept_n1,hx,cellDev,devcA,dev_lay,devc0,devc1,devc2,topc1,hs1,hs2,r48,hn,r103,hr1',hr2',hix,hls]);(with_reducible first|apply qac|apply qbg|apply qag (b:=false)|apply qaa (b:=false)|(apply qas;omega)|(apply qbx;omega))))
       refine qay ?_
       conv=>lhs;simp (disch:=first|omega|assumption) only [qao,qbr,List.map_nil,Nat.zero_add,List.length_append,List.length_cons,List.length_nil,qa6,qa9,take_n1,hr1]
       simpa using hih
theorem s56:f56 (encTop t) A=some (.ret (.int .i64 (topE t)),A):=by
 have hlo:=s56_loop t hok A t.ds 0 rfl (by omega)
 have hdl:=hok.ds.1
 have hll:=hok.ls.1
 have no:topT t=false→topE t=113:=fun h=>by unfold topE;rw [h];rfl
 unfold f56 n56;dsimp only
 refine qbb ?_
 by_cases h1:1≤t.w
 ·by_cases h2:t.w≤128
  ·by_cases h3:1≤t.ds.length
   ·by_cases h4:t.ds.length≤256
    ·by_cases h5:t.ls.length≤4096
     ·have e:topE t=if (devsT (aheadD t.ds 0) t.ds && lnksT t.ds none [] t.ls)=true then 0 else 113:=by
       have e0:aheadD t.ds 0=none:=rfl
       unfold topE topT
       rw [decide_eq_true (show 1≤t.w∧t.w≤128 from ⟨h1,h2⟩),decide_eq_true (show 1≤t.ds.length∧t.ds.length≤256 from ⟨h3,h4⟩),decide_eq_true h5,Bool.true_and,Bool.true_and,Bool.and_true,e0]
      rw [e]
      (repeat' first|(with_reducible first|apply qa3|apply qaz|apply qag (b:=false)|apply qaa (b:=false)|apply qan|apply qba|(apply qa2;omega)|(apply qbo;omega))|((conv=>arg 2;arg 1;simp (disch:=first|omega|assumption) only [qak,qaf,Nat.zero_add,Nat.add_zero,qa0,qa7,ldc0,List.length_map,topbx,topc0,topc1,topc2]);(with_reducible first|apply qac|apply qag (b:=false)|apply qaa (b:=false))))
      (refine qay ?_;(conv=>lhs;simp only []);exact hlo)
     ·rw [no (by unfold topT;rw [decide_eq_false h5];simp)]
      (repeat' first|(with_reducible first|apply qa3|apply qaz|apply qai|apply qag (b:=false)|apply qaa (b:=false)|apply qap|apply qba|(apply qa2;omega)|(apply qbx;omega)|(apply qbo;omega))|((conv=>arg 2;arg 1;simp (disch:=first|omega|assumption) only [qak,qaf,Nat.zero_add,Nat.add_zero,qa0,qa7,ldc0,List.length_map,topbx,topc0,topc1,topc2]);(with_reducible first|apply qac|apply qag (b:=false)|apply qaa (b:=true)|apply qaa (b:=false))))
      ((try conv=>arg 2;simp (disch:=first|omega|assumption) only [qae,qao,qam,qad,qaj,qab,qah,List.take_left']);refine qal ?_)
      rfl
    ·rw [no (by unfold topT;rw [decide_eq_false (fun h=>h4 h.2:¬ (1≤t.ds.length∧t.ds.length≤256))];simp)]
     (repeat' first|(with_reducible first|apply qac|apply qa3|apply qaz|apply qai|apply qag (b:=false)|apply qaa (b:=false)|apply qap|apply qbq|apply qba|(apply qa2;omega)|(apply qbx;omega)|(apply qbo;omega))|((conv=>arg 2;arg 1;simp (disch:=first|omega|assumption) only [qaq,qak,qaf,Nat.zero_add,Nat.add_zero,qa0,qa7,ldc0,List.length_map,topbx,topc0,topc1]);(with_reducible first|apply qac|apply qag (b:=true)|apply qag (b:=false)|apply qaa (b:=true)|apply qaa (b:=false))))
     ((try conv=>arg 2;simp (disch:=first|omega|assumption) only [qae,qao,qam,qad,qaj,qab,qah,List.take_left']);refine qal ?_)
     rfl
   ·rw [no (by unfold topT;rw [decide_eq_false (fun h=>h3 h.1:¬ (1≤t.ds.length∧t.ds.length≤256))];simp)]
    (repeat' first|(with_reducible first|apply qac|apply qa3|apply qaz|apply qai|apply qag (b:=false)|apply qaa (b:=false)|apply qap|apply qbq|apply qba|(apply qas;omega)|(apply qa2;omega)|(apply qbo;omega))|((conv=>arg 2;arg 1;simp (disch:=first|omega|assumption) only [qaq,qak,qaf,Nat.zero_add,Nat.add_zero,qa0,qa7,ldc0,List.length_map,topbx,topc0,topc1]);(with_reducible first|apply qac|apply qag (b:=true)|apply qag (b:=false)|apply qaa (b:=true)|apply qaa (b:=false))))
    ((try conv=>arg 2;simp (disch:=first|omega|assumption) only [qae,qao,qam,qad,qaj,qab,qah,List.take_left']);refine qal ?_)
    rfl
  ·rw [no (by unfold topT;rw [decide_eq_false (fun h=>h2 h.2:¬ (1≤t.w∧t.w≤128))];simp)]
   (repeat' first|(with_reducible first|apply qac|apply qa3|apply qaz|apply qai|apply qag (b:=false)|apply qaa (b:=false)|apply qap|apply qbq|apply qba|(apply qa2;omega)|(apply qbx;omega))|((conv=>arg 2;arg 1;simp (disch:=first|omega|assumption) only [qaq,qak,qaf,Nat.add_zero,qa7,ldc0,topbx,topc0]);(with_reducible first|apply qac|apply qag (b:=true)|apply qaa (b:=true))))
   ((try conv=>arg 2;simp (disch:=first|omega|assumption) only [qae,qao,qam,qad,qaj,qab,qah,List.take_left']);refine qal ?_)
   rfl
 ·rw [no (by unfold topT;rw [decide_eq_false (fun h=>h1 h.1:¬ (1≤t.w∧t.w≤128))];simp)]
  (repeat' first|(with_reducible first|apply qac|apply qa3|apply qaz|apply qai|apply qag (b:=true)|apply qaa (b:=true)|apply qap|apply qbq|(apply qas;omega))|((conv=>arg 2;arg 1;simp (disch:=first|omega|assumption) only [qaq,qaf,Nat.add_zero,qa7,ldc0,topbx,topc0]);(with_reducible first|apply qac|apply qag (b:=true)|apply qaa (b:=true))))
  ((try conv=>arg 2;simp (disch:=first|omega|assumption) only [qae,qao,qam,qad,qaj,qab,qah,List.take_left']);refine qal ?_)
  rfl
end
end Go.Vm.Rx
