/- Regions that draw their order: the theorem itself. -/
import Derived.Test.YtagmpieoalkneaaGreatDoorVmDraw2
set_option linter.all false
namespace Go.Vm
open Go.RowKit

theorem drK_plain {X:Cx} {o:Oper} (ro:Option Nat) (h:drK X o.op≠.bad):PlainAt ro o:=by
 right
 intro c hc
 rw [hc] at h
 obtain ⟨callee,args,ts⟩:=c
 cases callee<;>simp [drK,opK] at h

set_option maxHeartbeats 1600000 in
theorem draw_sim (X:Cx) (hc:CallOk X.P X.call):DrawOk X:=by
 intro id ops e A o h g₀ w₀ a₀ I₀ he₀ ro Q hQ
 unfold drawD at h
 simp only [Option.bind_eq_some_iff] at h
 obtain ⟨H,hH,⟨T,r⟩,ht,h⟩:=h
 obtain ⟨A0,hA0⟩:∃ A0:St,A0=A:=⟨A,rfl⟩
 have hlenA:A0.length=g₀.len:=by rw [hA0];exact I₀.len.symm
 rw [← hA0] at ht h
 have hclosed:=head_closed w₀ hH
 have hlenH:sq X ops A0.length ops.size=A0.length+H.length:=by
  have:=head_len (ops:=ops) (q0:=A0.length) 0 hH (fun j=>by simp)
  simpa [sq] using this
 rw [appH_eq] at ht h
 generalize hB:A0++H=B at ht h
 cases hok:drawOk X ops (ancAll ops) (r.map fun _=>T.length - 1) with
 | false=>rw [hok] at h;cases h
 | true =>
 rw [hok] at h
 simp only [cond_true] at h
 obtain ⟨hsame,h⟩:=guardP_eq.1 h
 simp only [Option.some.injEq] at h
 -- what the test says
 simp only [drawOk,Bool.and_eq_true] at hok
 obtain ⟨⟨⟨⟨hfol,hb0⟩,hsel0⟩,hpair0⟩,hpan0⟩:=hok
 have hb:∀ (i:Nat) o,ops[i]?=some o→∀ k ∈ bindsOn o,k<i:=fun i o ho k hk=>by
  have:=all_zipIdx hb0 ho
  simpa using List.all_eq_true.1 this k hk
 have htok:∀ (i:Nat) o,ops[i]?=some o→hintOf X.h o.dst=[]:=fun i o ho=>by
  have:=List.all_eq_true.1 hsel0 o (by simpa using Array.mem_of_getElem? ho)
  simp only [Bool.and_eq_true,List.isEmpty_iff] at this
  exact this.2
 have hpair:∀ (i j:Nat) oi oj,i<j→ops[i]?=some oi→ops[j]?=some oj→i ∈ (ancAll ops).getD j [] ∨
   (¬ (isEff X oi=true∧isEff X oj=true)∧(∀ t,oi.dst=some t→t ∉ looks ops oj∧oj.dst≠some t)∧(∀ t,oj.dst=some t→t ∉ looks ops oi)):=by
  intro i j oi oj hij hi hj
  have h1:=all_zipIdx hpair0 hi
  have h2:=all_zipIdx h1 hj
  simp only [Bool.or_eq_true,decide_eq_true_eq,Bool.and_eq_true,List.contains_iff_mem,Bool.not_eq_true'] at h2
  rcases h2 with h2|h2|⟨⟨h2,h3⟩,h4⟩
  ·omega
  ·exact .inl h2
  ·refine .inr ⟨?_,fun t ht=>?_,fun t ht=>?_⟩
   ·rintro ⟨q1,q2⟩
    rw [q1,q2] at h2
    cases h2
   ·rw [ht] at h3
    simp only [Bool.and_eq_true,Bool.not_eq_true',bne_iff_ne] at h3
    exact ⟨fun hm=>(by have:=List.contains_iff_mem.2 hm;rw [h3.1] at this;cases this),h3.2⟩
   ·rw [ht] at h4
    simp only [Bool.not_eq_true'] at h4
    exact fun hm=>by have:=List.contains_iff_mem.2 hm;rw [h4] at this;cases this
 -- the trace
 have htr:=trace_is X ops ops.toList A0.length e.t B T r ht
 obtain ⟨hstep,hTn,hTle,hTpos⟩:=trace_get 0 htr (fun j=>by simp) [] A0.length e.t B (fun _=>true) rfl rfl rfl (fun _ _ _=>rfl) (tA_zero B T).symm
 simp only [List.nil_append,Nat.zero_add,Array.length_toList] at hstep hTn hTle
 have hstep':∀ (i:Nat) s o',T[i]?=some s→ops[i]?=some o'→StepIs X ops o' (sq X ops A0.length i) (envLm ops T e.t (fun _=>true) i) (tA B T i) s (if i+1=T.length then r else none):=by
  intro i s o' hi ho
  obtain ⟨o2,h1,h2⟩:=hstep i s hi
  rw [ho] at h1
  cases h1
  exact h2
 have hpan:∀ p,r=some p→∀ (j:Nat) oj,T.length - 1<j→ops[j]?=some oj→T.length - 1 ∈ (ancAll ops).getD j []∨((∃ x,oj.op=.move x∨oj.op=.assign x)∧oj.guard=none):=by
  intro p hp j oj hj ho
  rw [hp] at hpan0
  simp only [Option.map_some] at hpan0
  have:=all_zipIdx hpan0 ho
  simp only [Bool.or_eq_true,decide_eq_true_eq,List.contains_iff_mem] at this
  rcases this with (h1|h1)|h1
  ·omega
  ·exact .inl h1
  ·refine .inr ?_
   cases hop:oj.op<;>rw [hop] at h1<;>simp only [Bool.false_eq_true,Option.isNone_iff_eq_none] at h1
   ·exact ⟨⟨_,.inl rfl⟩,h1⟩
   ·exact ⟨⟨_,.inr rfl⟩,h1⟩
 have heffp:∀ p,r=some p→∀ op,ops[T.length - 1]?=some op→isEff X op=true:=by
  intro p hp op hop
  have hpos:=hTpos (by rw [hp];rfl)
  have hi:T[T.length - 1]?=some T[T.length - 1]:=List.getElem?_eq_getElem (by omega)
  have hs:=hstep' _ _ op hi hop
  rw [if_pos (by omega),hp] at hs
  have:=hs.2.2.1
  simp [isEff,this]
 -- a step that is no effect leaves the store
 have hch:∀ m,m<ops.size→(ops[m]?).any (isEff X)=false→tA B T (m+1)=tA B T m:=by
  intro m hm he
  rcases Nat.lt_or_ge m T.length with hlt|hge
  ·have hi:T[m]?=some T[m]:=List.getElem?_eq_getElem hlt
   have ho:ops[m]?=some ops[m]:=by simp [hm]
   have hs:=hstep' m _ _ hi ho
   rw [tA_succ B T m _ hi]
   rw [ho] at he
   simp only [Option.any_some,isEff,beq_eq_false_iff_ne] at he
   unfold StepIs at hs
   split at hs
   ·exact absurd hs.2.2.1 he
   ·obtain ⟨_,hA,_,hs⟩:=hs
    cases hk:drK X ops[m].op<;>rw [hk] at hs he
    ·exact hs.1
    ·exact hs.1
    ·exact hs.1
    ·exact absurd rfl he
    ·exact hs.elim
  ·rw [tA_end B T _ hge,tA_end B T _ (by omega)]
 -- the walk over all orders
 have key:∀ (fuel:Nat) (listed:Array Bool) (a:Act) (w:World) (g:Gh),listed.size=ops.size →
   (∀ i,listed.getD i false=true→∀ o,ops[i]?=some o→∀ k ∈ bindsOn o,listed.getD k false=true) →
   (∀ p,r=some p→listed.getD (T.length - 1) false=false) →
   A0.length+H.length≤g.len→(∀ (j:Nat) oj,ops[j]?=some oj→drK X oj.op=.wait→listed.getD j false=false→g.m (sq X ops A0.length j)=.wait) →
   Ext g₀ w₀ g w→EnvOk X.n g w { e with t:=envLm ops T e.t (fun j=>listed.getD j false) ops.size } a→Inv g (stLm X ops B T (fun j=>listed.getD j false) ops.size) w →
   cntm (fun j=>listed.getD j false) ops.size≤fuel→wpAnyIn (FR ro) 0 X.P .any ops Q fuel listed a w:=by
  intro fuel
  induction fuel with
  | zero =>
   intro listed a w g hsz hcl hpl hln hwt E he I hcnt
   have hall:∀ i,i<ops.size→listed.getD i false=true:=cnt_zero (Nat.le_zero.1 hcnt)
   have hr:r=none:=by
    cases hr:r with
    | none=>rfl
    | some p =>
     have:=hpl p hr
     have hpos:=hTpos (by rw [hr];rfl)
     rw [hall _ (by omega)] at this
     cases this
   refine ⟨?_, ?_⟩
   ·refine List.eq_nil_iff_forall_not_mem.2 fun i hi=>?_
    obtain ⟨h0,o',ho',_⟩:=mem_ready.1 hi
    have hlt:=(Array.getElem?_eq_some_iff.1 ho').1
    have:=hall i hlt
    simp [Array.getD_eq_getD_getElem?,hsz ▸ hlt] at h0 this
    rw [h0] at this;cases this
   ·subst hr
    simp only at h
    have hTN:=hTn rfl
    refine hQ _ _ _ ⟨g,E, ?_, ?_, ?_⟩
    ·rw [← h]
     have:=st_agree (P:=X) (ops:=ops) (A:=B) (T:=T) (L:=fun j=>listed.getD j false) (L':=fun j=>decide (j<ops.size)) ops.size fun j hj _=>by simp only [hall j hj,hj,decide_true]
     rw [this,st_upto ops.size hch,Nat.min_self,tA_end B T _ (by omega)] at I
     exact I
    ·rw [← h]
     have:=env_full (e:=e.t) hTN hall ops.size (Nat.le_refl _)
     rw [List.take_of_length_le (by rw [List.length_zip,Array.length_toList];exact Nat.min_le_left _ _)] at this
     rw [this] at he
     exact he
    ·rw [← h];trivial
  | succ fuel ih =>
   intro listed a w g hsz hcl hpl hln hwt E he I hcnt
   refine ⟨fun hrd=>?_,fun i hi=>?_⟩
   ·-- nothing ready: all is done
    have hall:∀ i,i<ops.size→listed.getD i false=true:=by
     rcases least_loose (L:=fun j=>listed.getD j false) ops.size with h|⟨i,h1,h2,h3⟩
     ·exact h
     ·exfalso
      have:i ∈ Region.ready .any ops listed:=by
       rw [mem_ready]
       refine ⟨?_,ops[i],by simp [h1],fun ed hed hbi=>?_⟩
       ·simp [Array.getD_eq_getD_getElem?,show i<listed.size by omega] at h2 ⊢
        exact h2
       ·have hk:ed.on ∈ bindsOn ops[i]:=by
         unfold bindsOn
         refine List.mem_map.2 ⟨ed, ?_,rfl⟩
         rw [List.mem_filter]
         exact ⟨by simpa using hed,hbi⟩
        exact h3 ed.on (hb i ops[i] (by simp [h1]) _ hk)
      rw [hrd] at this
      cases this
    have hr:r=none:=by
     cases hr:r with
     | none=>rfl
     | some p =>
      have:=hpl p hr
      have hpos:=hTpos (by rw [hr];rfl)
      rw [hall _ (by omega)] at this
      cases this
    subst hr
    simp only at h
    have hTN:=hTn rfl
    refine hQ _ _ _ ⟨g,E, ?_, ?_, ?_⟩
    ·rw [← h]
     have:=st_agree (P:=X) (ops:=ops) (A:=B) (T:=T) (L:=fun j=>listed.getD j false) (L':=fun j=>decide (j<ops.size)) ops.size fun j hj _=>by simp only [hall j hj,hj,decide_true]
     rw [this,st_upto ops.size hch,Nat.min_self,tA_end B T _ (by omega)] at I
     exact I
    ·rw [← h]
     have:=env_full (e:=e.t) hTN hall ops.size (Nat.le_refl _)
     rw [List.take_of_length_le (by rw [List.length_zip,Array.length_toList];exact Nat.min_le_left _ _)] at this
     rw [this] at he
     exact he
    ·rw [← h];trivial
   ·-- one that is ready
    obtain ⟨h0,oi,hoi,hpre0⟩:=mem_ready.1 hi
    have hlt:i<ops.size:=(Array.getElem?_eq_some_iff.1 hoi).1
    have hLi:listed.getD i false=false:=by
     simp [Array.getD_eq_getD_getElem?,show i<listed.size by omega] at h0 ⊢
     exact h0
    have hpre:∀ o',ops[i]?=some o'→∀ k ∈ bindsOn o',listed.getD k false=true:=by
     intro o' ho' k hk
     rw [hoi] at ho'
     cases ho'
     unfold bindsOn at hk
     obtain ⟨ed,hed,rfl⟩:=List.mem_map.1 hk
     rw [List.mem_filter] at hed
     exact hpre0 ed (by simpa using hed.1) hed.2
    have hbefore:∀ j ∈ (ancAll ops).getD i [],listed.getD j false=true:=ancAll_closed hcl i hpre
    have hafter:∀ m,i ∈ (ancAll ops).getD m []→listed.getD m false=false:=by
     intro m hm
     cases hLm:listed.getD m false
     ·rfl
     ·have:=ancAll_closed hcl m (hcl m hLm) i hm
      rw [hLi] at this;cases this
    -- listed'=listed and i
    have hL':∀ j,(listed.setIfInBounds i true).getD j false=if j=i then true else listed.getD j false:=by
     intro j
     by_cases hj:j=i
     ·subst hj;simp [show j<listed.size by omega]
     ·rw [if_neg hj,getD_set_ne false (fun e=>hj e.symm)]
    have hLi':(listed.setIfInBounds i true).getD i false=true:=by rw [hL'];simp
    have hLne:∀ j,j≠i→(listed.setIfInBounds i true).getD j false=listed.getD j false:=fun j hj=>by rw [hL',if_neg hj]
    have hcl':∀ q,(listed.setIfInBounds i true).getD q false=true→∀ o,ops[q]?=some o→∀ k ∈ bindsOn o,(listed.setIfInBounds i true).getD k false=true:=by
     intro q hq o' ho' k hk
     refine getD_set_true ?_
     by_cases e:q=i
     ·subst e;exact hpre o' ho' k hk
     ·rw [hLne q e] at hq
      exact hcl q hq o' ho' k hk
    have hcnt':cntm (fun j=>(listed.setIfInBounds i true).getD j false) ops.size≤fuel:=by
     have:=cnt_more (L:=fun j=>listed.getD j false) (L':=fun j=>(listed.setIfInBounds i true).getD j false) hLi hLi' hLne ops.size hlt
     omega
    have henv':envLm ops T e.t (fun j=>(listed.setIfInBounds i true).getD j false) ops.size=putD oi.dst (tv T i) (envLm ops T e.t (fun j=>listed.getD j false) ops.size):=by
     have:=env_more (ops:=ops) (T:=T) (e:=e.t) (L:=fun j=>listed.getD j false) (L':=fun j=>(listed.setIfInBounds i true).getD j false) hLi hLi' hLne ops.size hlt fun j hij hj hLj t htj=>by
      have hoj:ops[j]?=some ops[j]:=by simp [hj]
      rw [hoi]
      simp only [Option.bind_some]
      rcases hpair i j oi ops[j] hij hoi hoj with h1|⟨_,h2,_⟩
      ·have:=hafter j h1
       rw [this] at hLj;cases hLj
      ·intro hdi
       have:=(h2 t hdi).2
       rw [hoj] at htj
       exact this (by simpa using htj)
     rw [this,hoi]
     rfl
    have hst_non:isEff X oi=false→stLm X ops B T (fun j=>(listed.setIfInBounds i true).getD j false) ops.size=stLm X ops B T (fun j=>listed.getD j false) ops.size:=by
     intro hne
     refine st_agree _ fun j hj hej=>?_
     refine hLne j ?_
     rintro rfl
     rw [hoi] at hej
     simp [hne] at hej
    -- carried out: the next state
    have next':∀ (g1:Gh) (w1:World) (v:Value),(∀ p,r=some p→i≠T.length - 1)→A0.length+H.length≤g1.len →
      (∀ (j:Nat) oj,ops[j]?=some oj→drK X oj.op=.wait→j≠i→listed.getD j false=false→g1.m (sq X ops A0.length j)=.wait) →
      Ext g₀ w₀ g1 w1→EnvOk X.n g1 w1 { e with t:=envLm ops T e.t (fun j=>listed.getD j false) ops.size } a→Rep g1 w1 (tv T i) v →
      Inv g1 (stLm X ops B T (fun j=>(listed.setIfInBounds i true).getD j false) ops.size) w1→wpAnyIn (FR ro) 0 X.P .any ops Q fuel (listed.setIfInBounds i true) (a.put oi.dst v) w1:=by
     intro g1 w1 v hnp hl1 hw1 E1 he1 hv I1
     refine ih _ _ w1 g1 (by simp [hsz]) hcl' (fun p hp=>?_) hl1 (fun j oj hj hkj hLj=>?_) E1 ?_ I1 hcnt'
     ·rw [hLne _ (fun e=>hnp p hp e.symm)]
      exact hpl p hp
     ·have hji:j≠i:=by
       rintro rfl
       rw [hLi'] at hLj;cases hLj
      rw [hLne j hji] at hLj
      exact hw1 j oj hj hkj hji hLj
     ·rw [henv']
      have:=he1.put oi.dst hv
      exact this
    have hsqlt:∀ (j:Nat) oj,ops[j]?=some oj→drK X oj.op=.wait→A0.length≤sq X ops A0.length j∧sq X ops A0.length j<A0.length+H.length:=by
     intro j oj hj hkj
     have hjlt:=(Array.getElem?_eq_some_iff.1 hj).1
     have h1:=sq_le X ops A0.length (show j+1≤ops.size by omega)
     rw [sq_wait hj hkj,hlenH] at h1
     have h2:=sq_le X ops A0.length (show 0≤j by omega)
     simp only [sq] at h2
     omega
    have next:∀ (g1:Gh) (w1:World) (v:Value),(∀ p,r=some p→i≠T.length - 1)→Ext g w g1 w1→Rep g1 w1 (tv T i) v →
      Inv g1 (stLm X ops B T (fun j=>(listed.setIfInBounds i true).getD j false) ops.size) w1→wpAnyIn (FR ro) 0 X.P .any ops Q fuel (listed.setIfInBounds i true) (a.put oi.dst v) w1:=by
     intro g1 w1 v hnp E1 hv I1
     refine next' g1 w1 v hnp (Nat.le_trans hln E1.len) (fun j oj hj hkj hji hLj=>?_) (E.trans E1) (he.ext E1) hv I1
     have h1:=E1.bind (sq X ops A0.length j) (by have:=hsqlt j oj hj hkj;omega)
     rw [hwt j oj hj hkj hLj] at h1
     exact h1.wait
    -- behind a panic: what can do no harm
    by_cases hiT:i<T.length
    case neg =>
     have hrs:∃ p,r=some p:=by
      cases hr:r with
      | none=>have:=hTn hr;omega
      | some p=>exact ⟨p,rfl⟩
     obtain ⟨p,hp⟩:=hrs
     have hpos:=hTpos (by rw [hp];rfl)
     rcases hpan p hp i oi (by omega) hoi with h1|⟨⟨x,hx⟩,hgd⟩
     ·have:=hbefore _ h1
      rw [hpl p hp] at this;cases this
     ·unfold wpOpIn
      rw [hoi]
      simp only
      rw [if_pos (by simp [Region.wanted,hgd])]
      have hrun:(execOp a.eval oi).run X.P w=.ok (.value (a.eval x)) w:=by rcases hx with hx|hx<;>simp [execOp,hx]
      have hne:isEff X oi=false:=by rcases hx with hx|hx<;>simp [isEff,drK,opK,hx]
      refine Oper.wpIn_value (.inr fun c hc=>by rcases hx with hx|hx<;>rw [hx] at hc<;>cases hc) hrun (next g w _ (fun q hq=>by omega) (Ext.refl _ _) ?_ ?_)
      ·have:tv T i=.any:=by simp [tv,List.getElem?_eq_none (Nat.not_lt.1 hiT)]
       rw [this];simp [Rep]
      ·rw [hst_non hne];exact I
    case pos =>
    have hTi:T[i]?=some T[i]:=List.getElem?_eq_getElem hiT
    have hs:=hstep' i _ oi hTi hoi
    have htv:tv T i=T[i].d:=by simp [tv,hTi]
    -- its operands read as in the order of the text
    have hlook:∀ t ∈ looks ops oi,(envLm ops T e.t (fun j=>listed.getD j false) ops.size)[t]?=(envLm ops T e.t (fun _=>true) i)[t]?:=by
     intro t ht
     have h1:=env_agree (ops:=ops) (T:=T) (e:=e.t) (L:=fun j=>listed.getD j false) (L':=fun m=>decide (m<i)) (t:=t) ops.size fun j hj hdj=>by
      have hoj:ops[j]?=some ops[j]:=by simp [hj]
      rw [hoj] at hdj
      simp only [Option.bind_some] at hdj
      rcases Nat.lt_trichotomy j i with hji|rfl|hij
      ·rcases hpair j i ops[j] oi hji hoj hoi with h1|⟨_,h2,_⟩
       ·simp [hji,hbefore j h1]
       ·exact absurd ht (h2 t hdj).1
      ·simp [hLi]
      ·rcases hpair i j oi ops[j] hij hoi hoj with h1|⟨_,_,h2⟩
       ·have:=hafter j h1
        simp only [this]
        simp;omega
       ·exact absurd ht (h2 t hdj)
     rw [h1,env_upto,Nat.min_eq_right (by omega)]
    have hops:=evalO_congr hlook
    have hwant0:wantedD ops (envLm ops T e.t (fun j=>listed.getD j false) ops.size) oi=some T[i].w:=(wantedD_congr hlook).trans hs.1
    have hwant:=wanted_sim (e:={ e with t:=envLm ops T e.t (fun j=>listed.getD j false) ops.size }) he hwant0
    -- an effect meets the store of the text's order
    have hst_eff:isEff X oi=true→stLm X ops B T (fun j=>listed.getD j false) ops.size=tA B T i∧stLm X ops B T (fun j=>(listed.setIfInBounds i true).getD j false) ops.size=T[i].A':=by
     intro hei
     have hag:∀ j,j<ops.size→(ops[j]?).any (isEff X)=true→j≠i→listed.getD j false=decide (j<i):=by
      intro j hj hej hne
      have hoj:ops[j]?=some ops[j]:=by simp [hj]
      rw [hoj] at hej
      simp only [Option.any_some] at hej
      rcases Nat.lt_trichotomy j i with hji|rfl|hij
      ·rcases hpair j i ops[j] oi hji hoj hoi with h1|⟨h2,_⟩
       ·simp [hji,hbefore j h1]
       ·exact absurd ⟨hej,hei⟩ h2
      ·exact absurd rfl hne
      ·rcases hpair i j oi ops[j] hij hoi hoj with h1|⟨h2,_⟩
       ·rw [hafter j h1];simp;omega
       ·exact absurd ⟨hei,hej⟩ h2
     constructor
     ·rw [st_agree (L':=fun m=>decide (m<i)) ops.size fun j hj hej=>by
       by_cases e:j=i
       ·subst e;simp [hLi]
       ·exact hag j hj hej e]
      rw [st_upto i (fun m hm=>hch m (by omega)) ops.size,Nat.min_eq_right (by omega)]
     ·rw [st_agree (L':=fun m=>decide (m<i+1)) ops.size fun j hj hej=>by
       by_cases e:j=i
       ·subst e
        simp only [hLi']
        simp
       ·simp only [hLne j e,hag j hj hej e]
        apply Bool.eq_iff_iff.2
        simp
        omega]
      rw [st_upto (i+1) (fun m hm=>hch m (by omega)) ops.size,Nat.min_eq_right (by omega),tA_succ B T i _ hTi]
    unfold wpOpIn
    rw [hoi]
    simp only [hwant]
    unfold StepIs at hs
    split at hs
    ·-- the panic
     rename_i stop p hstop
     have hil:i+1=T.length:=by
      by_cases hq:i+1=T.length
      ·exact hq
      ·rw [if_neg hq] at hstop;cases hstop
     rw [if_pos hil] at hstop
     obtain ⟨_,hsA,hk,hck,hw,hcall,hd⟩:=hs
     have hei:isEff X oi=true:=by simp [isEff,hk]
     obtain ⟨hs1,_⟩:=hst_eff hei
     rw [hs1] at I
     rw [hw,if_pos rfl]
     rw [← callD_congr hops] at hcall
     refine call_sim hc hcall I he (fun g' w' d v hr'=>by cases hr') fun g' w' d t u hr' E' I' R=>?_
     cases hr'
     rw [hstop] at h
     simp only at h
     refine hQ _ _ _ ⟨g',E.trans E', ?_, ?_, ?_⟩
     ·rw [← h]
      have hlast:T.getLast?=some T[i]:=by
       rw [List.getLast?_eq_getElem?,← hTi]
       congr 1
       omega
      simp only [hlast,Option.map_some,Option.getD_some]
      exact I'
     ·rw [← h]
      have he':=he.ext E'
      refine ⟨?_, ?_,he'.df⟩
      ·have:=he'.len
       simp only [envLm_length] at this
       simp only [forget_length]
       exact this
      ·refine RepL.of_get ?_ fun t d v h1 h2=>?_
       ·have:=he'.t.length
        simp only [envLm_length] at this
        simp only [forget_length]
        exact this
       ·by_cases hex:∃ o ∈ ops.toList,o.dst=some t
        ·have:=forget_any _ _ t hex d h1
         rw [this];simp [Rep]
        ·rw [forget_get _ _ t fun o' ho' e'=>hex ⟨o',ho',e'⟩] at h1
         have h3:=env_none (T:=T) (e:=e.t) (L:=fun j=>listed.getD j false) (t:=t) (ops:=ops) (fun o' ho' e'=>hex ⟨o',ho',e'⟩) ops.size
         rw [← h3] at h1
         obtain ⟨v',hv',hrv⟩:=he'.t.get h1
         rw [h2] at hv'
         cases hv'
         exact hrv
     ·rw [← h]
      exact ⟨t,u,rfl,R⟩
    ·-- no panic
     rename_i stop hstop
     have hnp:∀ p,r=some p→i≠T.length - 1:=by
      intro p hp hq
      have hpos:=hTpos (by rw [hp];rfl)
      rw [if_pos (by omega),hp] at hstop
      cases hstop
     obtain ⟨_,hsA,hskip,hs⟩:=hs
     -- not wanted
     cases hw:T[i].w with
     | false =>
      rw [if_neg (by simp)]
      refine ⟨fun _ _=>trivial, ?_⟩
      have hd:=hskip hw
      refine next g w undef hnp (Ext.refl _ _) (by rw [htv,hd];exact rep_undef g w) ?_
      cases hk:drK X oi.op with
      | val=>rw [hst_non (by simp [isEff,hk])];exact I
      | load=>rw [hst_non (by simp [isEff,hk])];exact I
      | wait=>rw [hst_non (by simp [isEff,hk])];exact I
      | bad=>rw [hk] at hs;exact hs.elim
      | eff =>
       rw [hk] at hs
       obtain ⟨s1,s2⟩:=hst_eff (by simp [isEff,hk])
       rw [s2,hs.1 hw,← s1]
       exact I
     | true =>
      rw [if_pos rfl]
      have hpo:PlainAt ro oi:=drK_plain (X:=X) ro fun hb=>by rw [hb] at hs;exact hs.elim
      have slotAt:isLoad X oi=true→∀ (β:Type) (F:St→β),(∀ A1 A2,sameAd T[i].ad A1 A2→F A1=F A2)→F (stLm X ops B T (fun j=>listed.getD j false) ops.size)=F (tA B T i):=by
       intro hld0 β F hF
       have hnei:isEff X oi=false:=by
        simp only [isLoad,Bool.or_eq_true,beq_iff_eq] at hld0
        rcases hld0 with q|q<;>simp [isEff,q]
       refine load_slot (N:=ops.size) rfl (by omega) hch (fun m m' hmm hm hm' hLm'=>?_) F (fun m hm h1 h2 hne=>?_) (by rw [hoi];simp [hnei])
       ·-- effects in order
        rcases ho1:ops[m]? with _|om
        ·rw [ho1] at hm;simp at hm
        ·rcases ho2:ops[m']? with _|om'
         ·rw [ho2] at hm';simp at hm'
         ·rw [ho1] at hm;rw [ho2] at hm'
          rcases hpair m m' om om' hmm ho1 ho2 with q|⟨q,_⟩
          ·exact ancAll_closed hcl m' (hcl m' hLm') m q
          ·exact absurd ⟨by simpa using hm,by simpa using hm'⟩ q
       ·-- an effect that no order binds to the load
        rcases ho1:ops[m]? with _|om
        ·rw [ho1] at hm;simp at hm
        ·rw [ho1] at hm
         simp only [Option.any_some] at hm
         have hmT:m<T.length:=by
          rcases Nat.lt_or_ge m T.length with h|h
          ·exact h
          ·exfalso
           have hLm:=h2 (by omega)
           cases hr:r with
           | none =>
            have:=hTn hr
            have:=(Array.getElem?_eq_some_iff.1 ho1).1
            omega
           | some p =>
            have hpos:=hTpos (by rw [hr];rfl)
            rcases hpan p hr m om (by omega) ho1 with q|⟨⟨x',hx'⟩,_⟩
            ·have:=ancAll_closed hcl m (hcl m hLm) _ q
             rw [hpl p hr] at this;cases this
            ·rcases hx' with hx'|hx'<;>simp [isEff,drK,opK,hx'] at hm
         have hmi:T[m]?=some T[m]:=List.getElem?_eq_getElem hmT
         have hnot1:m ∉ (ancAll ops).getD i []:=fun hq=>by
          have hl:=ancAll_lt hb i m hq
          have:=hbefore m hq
          rw [h1 hl] at this;cases this
         have hnot2:i ∉ (ancAll ops).getD m []:=fun hq=>by
          have hl:=ancAll_lt hb m i hq
          have:=hafter m hq
          rw [h2 hl] at this;cases this
         have hmem:(i,m) ∈ loosePairs X ops (ancAll ops):=by
          unfold loosePairs
          refine List.mem_flatMap.2 ⟨(oi,i), ?_, ?_⟩
          ·rw [List.mem_filter]
           exact ⟨by rw [List.mem_zipIdx_iff_getElem?];simpa using hoi,hld0⟩
          ·refine List.mem_map.2 ⟨(om,m), ?_,rfl⟩
           rw [List.mem_filter,List.mem_filter]
           refine ⟨⟨by rw [List.mem_zipIdx_iff_getElem?];simpa using ho1,hm⟩, ?_⟩
           simp only [Bool.not_eq_true',Bool.or_eq_false_iff]
           constructor
           ·cases hq:((ancAll ops).getD i []).contains m
            ·rfl
            ·exact absurd (List.contains_iff_mem.1 hq) hnot1
           ·cases hq:((ancAll ops).getD m []).contains i
            ·rfl
            ·exact absurd (List.contains_iff_mem.1 hq) hnot2
         have hsm:=allSame_mem hsame _ hmem
         unfold sameAt at hsm
         simp only [hTi,hmi] at hsm
         have hsmA:=hstep' m _ om hmi ho1
         rw [tA_succ B T m _ hmi,← hsmA.2.1]
         exact (hF _ _ hsm).symm
      cases hk:drK X oi.op with
      | bad=>rw [hk] at hs;exact hs.elim
      | wait =>
       rw [hk] at hs
       obtain ⟨hA',hv⟩:=hs
       obtain ⟨hv,had⟩:=hv hw
       have hst:=hst_non (by simp [isEff,hk])
       simp only [waitD,waitO,Option.bind_eq_some_iff] at hv
       obtain ⟨cs,hcs,hv⟩:=hv
       obtain ⟨hAq,hd⟩:=guardP_eq.1 hv
       simp only [Option.some.injEq] at hd
       have hsl:=slotAt (by simp [isLoad,hk]) _ (fun A=>A[sq X ops A0.length i]?) fun A1 A2 h=>by rw [had] at h;exact h
       obtain ⟨w',g',q1,q2,q3,q4,q5,q6,q7,q8,q9,q10⟩:=wait_sim (P:=X.P) cs hcs (hsl.trans hAq) I (hwt i oi hoi hk hLi) a
       have hq:=hsqlt i oi hoi hk
       refine Oper.wpIn_value hpo q1 (next' g' w' _ hnp (by rw [q4];exact hln) (fun j oj hj hkj hji hLj=>?_) (E.then_wait (by omega) q4 q5 q6 q7 q8 q9) (q3.env q4 he) (by rw [htv,← hd];exact q2) (by rw [hst];exact q10))
       rw [q6 _ (sq_inj hj hkj hoi hk hji)]
       exact hwt j oj hj hkj hLj
      | val =>
       rw [hk] at hs
       obtain ⟨hA',hv⟩:=hs
       have hv:=hv hw
       have hst:=hst_non (by simp [isEff,hk])
       rw [← valD_congr hops] at hv
       by_cases hpk:opK X.P oi.op=.pure
       ·unfold valD at hv
        rw [hpk] at hv
        obtain ⟨z,h1,h2⟩:=pure_sim hv he.t
        exact Oper.wpIn_value hpo h1 (next g w z hnp (Ext.refl _ _) (by rw [htv];exact h2) (by rw [hst];exact I))
       ·obtain ⟨nx,w',g',h1,h2,h3,h4⟩:=val_sim hk hpk hv I he.t
        cases nx<;>simp only [NextOk] at h2
        case value z=>exact Oper.wpIn_value hpo h1 (next g' w' z hnp h3 (by rw [htv];exact h2) (by rw [hst];exact h4))
        case skip=>exact Oper.wpIn_skip hpo h1 (next g' w' undef hnp h3 (by rw [htv,h2];exact rep_undef _ _) (by rw [hst];exact h4))
      | load =>
       rw [hk] at hs
       obtain ⟨hA',hv⟩:=hs
       obtain ⟨hv,had⟩:=hv hw
       have hnei:isEff X oi=false:=by simp [isEff,hk]
       have hst:=hst_non hnei
       rw [← worldD_congr hops] at hv
       rw [← loadAddr_congr hops] at had
       have hslot:=slotAt (by simp [isLoad,hk])
       have hop:(∃ t x,oi.op=.load t x)∨(∃ t m k ok,oi.op=.lookup t m k ok)∨∃ args ts,oi.op=.call ⟨.builtin .len,args,ts⟩:=by
        unfold drK at hk
        cases hopk:opK X.P oi.op<;>rw [hopk] at hk<;>simp only [reduceCtorEq] at hk
        cases hop:oi.op<;>rw [hop] at hk<;>(try (simp only [reduceCtorEq] at hk;done))
        ·exfalso
         cases hva:X.h.waitAl<;>simp [hva] at hk
        ·exact .inl ⟨_,_,rfl⟩
        ·exact .inr (.inl ⟨_,_,_,_,rfl⟩)
        ·rename_i c
         obtain ⟨callee,args,ts⟩:=c
         cases callee<;>(try (simp only [reduceCtorEq] at hk;done))
         rename_i b
         cases b<;>(try (simp only [reduceCtorEq] at hk;done))
         ·exfalso
          cases hva:X.h.valApp<;>simp [hva] at hk
         ·exact .inr (.inr ⟨_,_,rfl⟩)
       have hwd:worldD X.P (envLm ops T e.t (fun j=>listed.getD j false) ops.size) oi.op (stLm X ops B T (fun j=>listed.getD j false) ops.size)=some (T[i].d,stLm X ops B T (fun j=>listed.getD j false) ops.size):=by
        generalize envLm ops T e.t (fun j=>listed.getD j false) ops.size=en at hv had
        rcases hop with ⟨t,x,hop⟩|⟨t,m,k,ok,hop⟩|⟨args,ts,hop⟩
        ·rw [hop] at hv had ⊢
         simp only [worldD,Option.map_map,Function.comp_def,Option.map_id'] at hv ⊢
         simp only [loadAddr] at had
         rw [loadD_congr (A2:=tA B T i) fun k off hk'=>hslot _ (fun A=>A[k]?) fun A1 A2 h=>by rw [had,hk'] at h;exact h,hv]
         rfl
        ·rw [hop] at hv had ⊢
         simp only [worldD,mapD,Option.map_eq_some_iff,Option.bind_eq_some_iff,Prod.mk.injEq] at hv ⊢
         obtain ⟨y,⟨q,hq,kt,hkt,z,hz,d',hd,rfl⟩,rfl⟩:=hv
         simp only [loadAddr,hq,Option.bind_some,hz] at had
         refine ⟨q,hq,kt,hkt,z,hz,_, ?_,rfl,trivial⟩
         have hd0:=hd
         unfold mapGetO at hd0
         simp only [Option.bind_eq_some_iff] at hd0
         obtain ⟨kk,hkk,_⟩:=hd0
         obtain ⟨hk1,hk2⟩:=keyOf_kt hkk
         subst hk2
         rw [← hd]
         refine hslot _ (fun A=>mapGetO kk.kt (ofConst z) ok (evalO en m) (evalO en k) A) fun A1 A2 h=>?_
         rw [had] at h
         simp only [sameAd,adVal,hk1,Option.bind_some] at h
         exact h
        ·rw [hop] at hv had ⊢
         simp only [worldD] at hv ⊢
         split at hv
         ·rename_i x hx
          simp only [hx,Option.map_eq_some_iff,Option.bind_eq_some_iff,Prod.mk.injEq] at hv ⊢
          obtain ⟨y,⟨q,hq,d',hd,rfl⟩,rfl⟩:=hv
          simp only [loadAddr,hx] at had
          refine ⟨q,hq,_, ?_,rfl,trivial⟩
          rw [← hd]
          refine hslot _ (fun A=>mapLenO (evalO en x) A) fun A1 A2 h=>?_
          rw [had] at h
          exact h
         ·cases hv
       obtain ⟨nx,w',g',h1,h2,h3,h4⟩:=world_sim hwd I he.t
       cases nx<;>simp only [NextOk] at h2
       case value z=>exact Oper.wpIn_value hpo h1 (next g' w' z hnp h3 (by rw [htv];exact h2) (by rw [hst];exact h4))
       case skip=>exact Oper.wpIn_skip hpo h1 (next g' w' undef hnp h3 (by rw [htv,h2];exact rep_undef _ _) (by rw [hst];exact h4))
      | eff =>
       rw [hk] at hs
       obtain ⟨_,hv⟩:=hs
       obtain ⟨s1,s2⟩:=hst_eff (by simp [isEff,hk])
       rw [s1] at I
       rcases hv hw with ⟨hck,hcall⟩|⟨hwk,hwd⟩
       ·rw [← callD_congr hops] at hcall
        refine call_sim hc hcall I he (fun g' w' d v hr' E' I' R=>?_) fun g' w' d t u hr'=>by cases hr'
        cases hr'
        exact next g' w' v hnp E' (by rw [htv];exact R) (by rw [s2];exact I')
       ·rw [← worldD_congr hops] at hwd
        obtain ⟨nx,w',g',h1,h2,h3,h4⟩:=world_sim hwd I he.t
        cases nx<;>simp only [NextOk] at h2
        case value z=>exact Oper.wpIn_value hpo h1 (next g' w' z hnp h3 (by rw [htv];exact h2) (by rw [s2];exact h4))
        case skip=>exact Oper.wpIn_skip hpo h1 (next g' w' undef hnp h3 (by rw [htv,h2];exact rep_undef _ _) (by rw [s2];exact h4))
 -- at the beginning nothing is done
 refine wpIn_region_any hfol ?_
 obtain ⟨E1,I1⟩:=I₀.drew
 obtain ⟨g₁,E2,I2,hl2,hw2⟩:=head_inv H hclosed I1
 rw [← hA0,hB] at I2
 have hno:∀ j,(Array.replicate ops.size false).getD j false=false:=by
  intro j
  simp [Array.getD_eq_getD_getElem?,Array.getElem?_replicate]
  split<;>rfl
 have hfun:(fun j=>(Array.replicate ops.size false).getD j false)=fun _=>false:=funext hno
 refine key ops.size _ a₀ w₀.drew g₁ (by simp) (fun i hi=>by rw [hno i] at hi;cases hi) (fun _ _=>hno _) (by rw [hl2];omega) (fun j oj hj hkj _=>?_) (E1.trans E2) ?_ ?_ ?_
 ·have hjlt:=(Array.getElem?_eq_some_iff.1 hj).1
  have h1:=sq_le X ops A0.length (show j+1≤ops.size by omega)
  rw [sq_wait hj hkj,hlenH] at h1
  have h2:=sq_le X ops A0.length (show 0≤j by omega)
  simp only [sq] at h2
  exact hw2 _ (by omega) (by omega)
 ·rw [hfun]
  have:∀ m,envLm ops T e.t (fun _=>false) m=e.t:=by
   intro m
   induction m with
   | zero=>rfl
   | succ m ih=>simp [envLm,ih]
  rw [this]
  exact he₀.ext (E1.trans E2)
 ·rw [hfun]
  have:∀ m,stLm X ops B T (fun _=>false) m=B:=by
   intro m
   induction m with
   | zero=>rfl
   | succ m ih=>simp [stLm,ih]
  rw [this]
  exact I2
 ·rw [hfun]
  have:∀ m,cntm (fun _=>false) m=m:=by
   intro m
   induction m with
   | zero=>rfl
   | succ m ih=>simp [cntm,ih]
  rw [this]
  exact Nat.le_refl _
end Go.Vm
