/- Regions that draw their order: every order comes to what the order of the text comes to. -/
import Derived.Test.YtagmpieoalkneaaGreatDoorVmFun
import Derived.Orders
set_option linter.all false
namespace Go.Vm
open Go.RowKit

theorem pureD_congr {P:Program} {e e':List D} {op:Op} (h:∀ x ∈ op.operands,evalO e x=evalO e' x):pureD P e op=pureD P e' op:=by
 have pairs:∀ ps:Array (Nat×Operand),(∀ x ∈ ps.map (·.2),evalO e x=evalO e' x)→(ps.toList.map fun p=>(p.1,evalO e p.2))=(ps.toList.map fun p=>(p.1,evalO e' p.2)):=fun ps hp =>
  List.map_congr_left fun p hm=>by
   obtain ⟨i,x⟩:=p
   simp only [hp x (Array.mem_map.2 ⟨(i,x),by simpa using hm,rfl⟩)]
 have lst:∀ ps:Array Operand,(∀ x ∈ ps,evalO e x=evalO e' x)→ps.toList.map (evalO e)=ps.toList.map (evalO e'):=fun ps hp =>
  List.map_congr_left fun x hm=>hp x (by simpa using hm)
 cases op<;>simp only [Op.operands] at h<;>simp only [pureD]
 case build t ps=>rw [pairs ps fun x hx=>h x (by simpa using hx)]
 case makeFunc f first cap=>rw [lst first fun x hx=>h x (by simp [hx]),lst cap fun x hx=>h x (by simp [hx])]
 case slice t x lo hi mx=>cases lo<;>cases hi<;>cases mx<;>simp_all
 case call c =>
  obtain ⟨callee,args,ts⟩:=c
  cases callee<;>(try simp only)
  rw [lst args fun x hx=>h x (by simp [Call.operands,hx])]
 all_goals (first|rfl|(simp_all;done))
theorem worldD_congr {P:Program} {e e':List D} {op:Op} (h:∀ x ∈ op.operands,evalO e x=evalO e' x) (A:St):worldD P e op A=worldD P e' op A:=by
 have pairs:∀ ps:Array (Nat×Operand),(∀ x ∈ ps.map (·.2),evalO e x=evalO e' x)→(ps.toList.map fun p=>(p.1,evalO e p.2))=(ps.toList.map fun p=>(p.1,evalO e' p.2)):=fun ps hp =>
  List.map_congr_left fun p hm=>by
   obtain ⟨i,x⟩:=p
   simp only [hp x (Array.mem_map.2 ⟨(i,x),by simpa using hm,rfl⟩)]
 cases op<;>simp only [Op.operands] at h<;>simp only [worldD,mapD]
 case buildSlice t n ps=>rw [pairs ps fun x hx=>h x (by simpa using hx)]
 case makeMap t r=>cases r<;>simp_all
 case call c =>
  obtain ⟨callee,args,ts⟩:=c
  cases callee<;>(try simp only [mapD])
  rename_i b
  cases b<;>(try rfl)
  all_goals
   simp only
   have h':∀ x ∈ args.toList,evalO e x=evalO e' x:=fun x hx=>h x (by simp [Call.operands];simpa using hx)
  case append =>
   split
   ·rename_i x y hxy
    rw [hxy] at h'
    rw [h' x (by simp),h' y (by simp)]
   ·rfl
  case delete =>
   split
   ·rename_i x y t r hxy _
    rw [hxy] at h'
    rw [h' x (by simp),h' y (by simp)]
   ·rfl
  case len =>
   split
   ·rename_i x hxy
    rw [hxy] at h'
    rw [h' x (by simp)]
   ·rfl
 all_goals (first|rfl|(simp_all;done))
theorem valD_congr {P:Program} {e e':List D} {op:Op} (h:∀ x ∈ op.operands,evalO e x=evalO e' x):valD P e op=valD P e' op:=by
 unfold valD
 rw [pureD_congr h,worldD_congr h]
theorem callD_congr {call:FuncId→List D→St→ORes} {e e':List D} {op:Op} (h:∀ x ∈ op.operands,evalO e x=evalO e' x) (A:St):callD call e op A=callD call e' op A:=by
 have lst:∀ ps:Array Operand,(∀ x ∈ ps,evalO e x=evalO e' x)→ps.toList.map (evalO e)=ps.toList.map (evalO e'):=fun ps hp =>
  List.map_congr_left fun x hm=>hp x (by simpa using hm)
 cases op<;>simp only [Op.operands] at h<;>simp only [callD]
 case panic x=>rw [h x (by simp)]
 rename_i c
 obtain ⟨callee,args,ts⟩:=c
 cases callee<;>(try simp only)
 case value f =>
  rw [lst args fun x hx=>h x (by simp [Call.operands,hx]),h f (by simp [Call.operands])]
 case builtin b =>
  cases b<;>(try rfl)
  simp only
  have h':∀ x ∈ args.toList,evalO e x=evalO e' x:=fun x hx=>h x (by simp [Call.operands];simpa using hx)
  split
  ·rename_i x hxy
   rw [hxy] at h'
   rw [h' x (by simp)]
  ·rfl
theorem loadAddr_congr {P:Program} {e e':List D} {op:Op} (h:∀ x ∈ op.operands,evalO e x=evalO e' x):loadAddr P e op=loadAddr P e' op:=by
 cases op<;>simp only [Op.operands] at h<;>simp only [loadAddr]
 case load=>exact h _ (by simp)
 case lookup=>rw [h _ (by simp),h _ (by simp)]
 case call c =>
  obtain ⟨callee,args,ts⟩:=c
  cases callee<;>(try simp only)
  rename_i b
  cases b<;>(try rfl)
  simp only
  have h':∀ x ∈ args.toList,evalO e x=evalO e' x:=fun x hx=>h x (by simp [Call.operands];simpa using hx)
  split
  ·rename_i x hxy
   rw [hxy] at h'
   rw [h' x (by simp)]
  ·rfl
theorem evalO_congr {e e':List D} {ops:Array Oper} {o:Oper} (h:∀ t ∈ looks ops o,e[t]?=e'[t]?):∀ x ∈ o.op.operands,evalO e x=evalO e' x:=by
 intro x hx
 cases x with
 | tmp t =>
  have:=h t (List.mem_append_left _ (List.mem_filterMap.2 ⟨.tmp t,by simpa using hx,rfl⟩))
  simp [evalO,List.getD,this]
 | _=>rfl
theorem wantedD_congr {e e':List D} {ops:Array Oper} {o:Oper} (h:∀ t ∈ looks ops o,e[t]?=e'[t]?):wantedD ops e o=wantedD ops e' o:=by
 unfold wantedD
 split
 ·rfl
 ·rename_i j want hg
  split
  ·rename_i t ht
   have:=h t (List.mem_append_right _ (by rw [hg];simp [ht]))
   simp [List.getD,this]
  ·rfl

theorem ancAll_closed {ops:Array Oper} {L:Nat→Bool} (hcl:∀ i,L i=true→∀ o,ops[i]?=some o→∀ k ∈ bindsOn o,L k=true) :
  ∀ i,(∀ o,ops[i]?=some o→∀ k ∈ bindsOn o,L k=true)→∀ j ∈ (ancAll ops).getD i [],L j=true:=by
 have gen:∀ (os:List Oper) (acc:List (List Nat)),(∀ j,os[j]?=ops[acc.length+j]?) →
   (∀ i,i<acc.length→(∀ o,ops[i]?=some o→∀ k ∈ bindsOn o,L k=true)→∀ j ∈ acc.getD i [],L j=true) →
   ∀ i,(∀ o,ops[i]?=some o→∀ k ∈ bindsOn o,L k=true)→∀ j ∈ (os.foldl (fun acc o=>acc++[((bindsOn o)++(bindsOn o).flatMap (fun j=>acc.getD j [])).eraseDups]) acc).getD i [],L j=true:=by
  intro os
  induction os with
  | nil =>
   intro acc _ hacc i hi j hj
   simp only [List.foldl_nil] at hj
   rcases Nat.lt_or_ge i acc.length with hlt|hge
   ·exact hacc i hlt hi j hj
   ·simp [List.getD,List.getElem?_eq_none hge] at hj
  | cons o os ih =>
   intro acc hos hacc i hi j hj
   simp only [List.foldl_cons] at hj
   refine ih _ (fun q=>?_) (fun i hlt hi j hj=>?_) i hi j hj
   ·have:=hos (q+1)
    simp only [List.getElem?_cons_succ] at this
    rw [this]
    simp only [List.length_append,List.length_cons,List.length_nil]
    congr 1
    omega
   ·simp only [List.length_append,List.length_cons,List.length_nil] at hlt
    rcases Nat.lt_or_ge i acc.length with h1|h1
    ·rw [List.getD,List.getElem?_append_left h1] at hj
     exact hacc i h1 hi j hj
    ·have:i=acc.length:=by omega
     subst this
     rw [List.getD,List.getElem?_append_right (Nat.le_refl _)] at hj
     simp only [Nat.sub_self,List.getElem?_cons_zero,Option.getD_some] at hj
     have hj:=List.mem_eraseDups.1 hj
     have ho:ops[acc.length]?=some o:=by have:=hos 0;simpa using this.symm
     rcases List.mem_append.1 hj with hj|hj
     ·exact hi o ho j hj
     ·obtain ⟨k,hk,hjk⟩:=List.mem_flatMap.1 hj
      have hLk:=hi o ho k hk
      rcases Nat.lt_or_ge k acc.length with h2|h2
      ·exact hacc k h2 (hcl k hLk) j hjk
      ·simp [List.getD,List.getElem?_eq_none h2] at hjk
 intro i hi j hj
 exact gen ops.toList [] (fun j=>by simp) (fun i hlt=>by simp at hlt) i hi j hj
def StepIs (X:Cx) (ops:Array Oper) (o:Oper) (q:Nat) (e:List D) (A:St) (s:TStep) (stop:Option D):Prop :=
 wantedD ops e o=some s.w∧s.A=A ∧
 match stop with
 | some p=>drK X o.op=.eff∧opK X.P o.op=.call∧s.w=true∧callD X.call e o.op A=some (.pan p,s.A')∧s.d=.any
 | none =>
  (s.w=false→s.d=undefD) ∧
  match drK X o.op with
  | .val=>s.A'=A∧(s.w=true→valD X.P e o.op=some s.d)
  | .load=>s.A'=A∧(s.w=true→(worldD X.P e o.op A).map (·.1)=some s.d∧s.ad=loadAddr X.P e o.op)
  | .wait=>s.A'=A∧(s.w=true→waitD X.P o.op q A=some s.d∧s.ad=.ref q 0)
  | .eff=>(s.w=false→s.A'=A)∧(s.w=true→(opK X.P o.op=.call∧callD X.call e o.op A=some (.ret s.d,s.A'))∨(opK X.P o.op=.world∧worldD X.P e o.op A=some (s.d,s.A')))
  | .bad=>False
def nq (X:Cx) (o:Oper) (q:Nat):Nat:=match drK X o.op with
 | .wait=>q+1
 | _=>q
def sq (X:Cx) (ops:Array Oper) (q0:Nat):Nat→Nat
 | 0=>q0
 | m+1=>match ops[m]? with
  | some o=>nq X o (sq X ops q0 m)
  | none=>sq X ops q0 m
def TraceIs (X:Cx) (ops:Array Oper):List Oper→Nat→List D→St→List TStep→Option D→Prop
 | [],_,_,_,T,r=>T=[]∧r=none
 | o::os,q,e,A,T,r=>∃ s T',T=s::T' ∧
     ((∃ p,r=some p∧T'=[]∧StepIs X ops o q e A s (some p))∨(StepIs X ops o q e A s none∧TraceIs X ops os (nq X o q) (putD o.dst s.d e) s.A' T' r))
theorem trace_is (X:Cx) (ops:Array Oper):∀ (os:List Oper) (k:Nat) (e:List D) (A:St) (T:List TStep) (r:Option D),traceD X ops os k e A=some (T,r)→TraceIs X ops os k e A T r
 | [],k,e,A,T,r,h=>by
  simp only [traceD,Option.some.injEq,Prod.mk.injEq] at h
  exact ⟨h.1.symm,h.2.symm⟩
 | o::os,k,e,A,T,r,h=>by
  simp only [traceD,Option.bind_eq_some_iff] at h
  obtain ⟨b,hb,h⟩:=h
  cases hk:drK X o.op with
  | val =>
   rw [hk] at h
   simp only [Option.bind_eq_some_iff,Option.map_eq_some_iff,Prod.mk.injEq] at h
   obtain ⟨d,hd,q,hq,rfl,rfl⟩:=h
   refine ⟨_,_,rfl,.inr ⟨⟨hb,rfl, ?_, ?_⟩,(by rw [show nq X o k=k by simp [nq,hk]];exact trace_is X ops os _ _ _ _ _ hq)⟩⟩
   ·intro hw;simp only at hw;subst hw;simpa using hd.symm
   ·rw [hk]
    exact ⟨rfl,fun hw=>by simp only at hw;subst hw;simpa using hd⟩
  | load =>
   rw [hk] at h
   simp only [Option.bind_eq_some_iff,Option.map_eq_some_iff,Prod.mk.injEq] at h
   obtain ⟨d,hd,q,hq,rfl,rfl⟩:=h
   refine ⟨_,_,rfl,.inr ⟨⟨hb,rfl, ?_, ?_⟩,(by rw [show nq X o k=k by simp [nq,hk]];exact trace_is X ops os _ _ _ _ _ hq)⟩⟩
   ·intro hw;simp only at hw;subst hw;simpa using hd.symm
   ·rw [hk]
    exact ⟨rfl,fun hw=>by simp only at hw;subst hw;exact ⟨by simpa using hd,rfl⟩⟩
  | bad=>rw [hk] at h;cases h
  | wait =>
   rw [hk] at h
   simp only [Option.bind_eq_some_iff,Option.map_eq_some_iff,Prod.mk.injEq] at h
   obtain ⟨d,hd,q,hq,rfl,rfl⟩:=h
   refine ⟨_,_,rfl,.inr ⟨⟨hb,rfl, ?_, ?_⟩,(by rw [show nq X o k=k+1 by simp [nq,hk]];exact trace_is X ops os _ _ _ _ _ hq)⟩⟩
   ·intro hw;simp only at hw;subst hw;simpa using hd.symm
   ·rw [hk]
    exact ⟨rfl,fun hw=>by simp only at hw;subst hw;exact ⟨by simpa using hd,rfl⟩⟩
  | eff =>
   rw [hk] at h
   simp only at h
   split at h
   ·rename_i hc
    simp only [Option.bind_eq_some_iff] at h
    obtain ⟨⟨x,A1⟩,hx,h⟩:=h
    cases x with
    | ret d =>
     simp only [Res.elim,Option.map_eq_some_iff,Prod.mk.injEq] at h
     obtain ⟨q,hq,rfl,rfl⟩:=h
     refine ⟨_,_,rfl,.inr ⟨⟨hb,rfl, ?_, ?_⟩,(by rw [show nq X o k=k by simp [nq,hk]];exact trace_is X ops os _ _ _ _ _ hq)⟩⟩
     ·intro hw;simp only at hw;subst hw
      simp only [cond_false,Option.some.injEq,Prod.mk.injEq,Res.ret.injEq] at hx
      exact hx.1.symm
     ·rw [hk]
      refine ⟨fun hw=>?_,fun hw=>?_⟩
      ·simp only at hw;subst hw
       simp only [cond_false,Option.some.injEq,Prod.mk.injEq] at hx
       exact hx.2.symm
      ·simp only at hw;subst hw
       exact .inl ⟨hc,by simpa using hx⟩
    | pan p =>
     simp only [Res.elim,Option.some.injEq,Prod.mk.injEq] at h
     obtain ⟨rfl,rfl⟩:=h
     cases b with
     | false=>simp at hx
     | true=>exact ⟨_,_,rfl,.inl ⟨p,rfl,rfl,hb,rfl,hk,hc,rfl,by simpa using hx,rfl⟩⟩
   ·rename_i hc
    simp only [Option.bind_eq_some_iff,Option.map_eq_some_iff,Prod.mk.injEq] at h
    obtain ⟨⟨d,A1⟩,hx,q,hq,rfl,rfl⟩:=h
    refine ⟨_,_,rfl,.inr ⟨⟨hb,rfl, ?_, ?_⟩,(by rw [show nq X o k=k by simp [nq,hk]];exact trace_is X ops os _ _ _ _ _ hq)⟩⟩
    ·intro hw;simp only at hw;subst hw
     simp only [cond_false,Option.some.injEq,Prod.mk.injEq] at hx
     exact hx.1.symm
    ·rw [hk]
     refine ⟨fun hw=>?_,fun hw=>?_⟩
     ·simp only at hw;subst hw
      simp only [cond_false,Option.some.injEq,Prod.mk.injEq] at hx
      exact hx.2.symm
     ·simp only at hw;subst hw
      refine .inr ⟨?_,by simpa using hx⟩
      unfold drK at hk
      split at hk
      ·cases hk
      ·assumption
      ·exact absurd (by assumption) hc
      ·cases hk
def tv (T:List TStep) (i:Nat):D:=((T[i]?).map (·.d)).getD .any
def tA (A:St) (T:List TStep) (i:Nat):St:=(((T.take i).getLast?).map (·.A')).getD A
def envLm (ops:Array Oper) (T:List TStep) (e:List D) (L:Nat→Bool):Nat→List D
 | 0=>e
 | m+1=>cond (L m) (putD ((ops[m]?).bind (·.dst)) (tv T m) (envLm ops T e L m)) (envLm ops T e L m)
theorem tA_zero (A:St) (T:List TStep):tA A T 0=A:=by simp [tA]
theorem tA_succ (A:St) (T:List TStep) (i:Nat) (s:TStep) (h:T[i]?=some s):tA A T (i+1)=s.A':=by
 have hl:=(List.getElem?_eq_some_iff.1 h).1
 simp only [tA]
 rw [List.take_succ_eq_append_getElem hl]
 simp [(List.getElem?_eq_some_iff.1 h).2]
theorem tA_end (A:St) (T:List TStep) (n:Nat) (h:T.length≤n):tA A T n=((T.getLast?).map (·.A')).getD A:=by
 simp [tA,List.take_of_length_le h]
theorem envLm_length (ops:Array Oper) (T:List TStep) (e:List D) (L:Nat→Bool):∀ m,(envLm ops T e L m).length=e.length
 | 0=>rfl
 | m+1=>by
  simp only [envLm]
  cases L m
  ·exact envLm_length ops T e L m
  ·simp only [cond_true,putD]
   split
   ·rw [List.length_set];exact envLm_length ops T e L m
   ·exact envLm_length ops T e L m
theorem trace_get {X:Cx} {ops:Array Oper}:∀ {os:List Oper} {q:Nat} {e:List D} {A:St} {T:List TStep} {r:Option D} (k:Nat),TraceIs X ops os q e A T r→(∀ j,os[j]?=ops[k+j]?) →
  ∀ (T0:List TStep) (q0:Nat) (e0:List D) (A0:St) (L:Nat→Bool),T0.length=k→q=sq X ops q0 k→e=envLm ops (T0++T) e0 L k→(∀ j,k≤j→j<k+T.length→L j=true)→A=tA A0 (T0++T) k →
  (∀ i s,T[i]?=some s→∃ o,ops[k+i]?=some o∧StepIs X ops o (sq X ops q0 (k+i)) (envLm ops (T0++T) e0 L (k+i)) (tA A0 (T0++T) (k+i)) s (if i+1=T.length then r else none)) ∧
  (r=none→T.length=os.length)∧T.length≤os.length∧(r.isSome→0<T.length)
 | [],q,e,A,T,r,k,h,hos,T0,q0,e0,A0,L,hT0,hq,he,hL,hA=>by
  obtain ⟨rfl,rfl⟩:=h
  exact ⟨fun i s hi=>by simp at hi,fun _=>rfl,Nat.le_refl _,fun h=>by simp at h⟩
 | o::os,q,e,A,T,r,k,h,hos,T0,q0,e0,A0,L,hT0,hq,he,hL,hA=>by
  obtain ⟨s,T',rfl,h⟩:=h
  have ho:ops[k]?=some o:=by have:=hos 0;simpa using this.symm
  rcases h with ⟨p,rfl,rfl,hs⟩|⟨hs,ht⟩
  ·refine ⟨fun i s' hi=>?_,fun h=>by simp at h,by simp,fun _=>by simp⟩
   cases i with
   | succ i=>simp at hi
   | zero =>
    simp only [List.getElem?_cons_zero,Option.some.injEq] at hi
    subst hi
    refine ⟨o,ho, ?_⟩
    rw [if_pos (by simp)]
    rw [Nat.add_zero,← hq,← he,← hA]
    exact hs
  ·have e1:T0++s::T'=(T0++[s])++T':=by simp
   have hget:(T0++s::T')[k]?=some s:=by rw [List.getElem?_append_right (by omega)];simp [hT0]
   have hLk:=hL k (Nat.le_refl _) (by simp)
   have he':putD o.dst s.d e=envLm ops ((T0++[s])++T') e0 L (k+1):=by
    rw [← e1]
    simp only [envLm,hLk,cond_true,ho,Option.bind_some,tv,hget,Option.map_some,Option.getD_some]
    rw [← he]
   have hA':s.A'=tA A0 ((T0++[s])++T') (k+1):=by
    rw [← e1,tA_succ _ _ _ _ hget]
   obtain ⟨h1,h2,h3,h4⟩:=trace_get (k+1) ht (fun j=>by have:=hos (j+1);simp only [List.getElem?_cons_succ] at this;rw [this];congr 1;omega) (T0++[s]) q0 e0 A0 L (by simp [hT0]) (by simp only [sq,ho];rw [← hq]) he'
    (fun j j1 j2=>hL j (by omega) (by simp;omega)) hA'
   refine ⟨fun i s' hi=>?_,fun h=>by simp [h2 h],by simp;omega,fun h=>by simp⟩
   cases i with
   | zero =>
    simp only [List.getElem?_cons_zero,Option.some.injEq] at hi
    subst hi
    refine ⟨o,ho, ?_⟩
    rw [Nat.add_zero,← hq,← he,← hA]
    by_cases hz:0+1=(s::T').length
    ·rw [if_pos hz]
     have:T'=[]:=List.eq_nil_of_length_eq_zero (by simp only [List.length_cons] at hz;omega)
     subst this
     have:r=none:=by
      cases r with
      | none=>rfl
      | some p=>have:=h4 rfl;simp at this
     rw [this]
     exact hs
    ·rw [if_neg hz];exact hs
   | succ i =>
    obtain ⟨o',q1,q2⟩:=h1 i s' (by simpa using hi)
    refine ⟨o',by rw [show k+(i+1)=k+1+i by omega];exact q1, ?_⟩
    rw [show k+(i+1)=k+1+i by omega,e1]
    have:(i+1+1=(s::T').length)↔(i+1=T'.length):=by simp
    simpa only [this] using q2
theorem put_get (dst:Option Tmp) (d:D) (e:List D) (t:Nat) (h:dst≠some t):(putD dst d e)[t]?=e[t]?:=by
 cases dst with
 | none=>rfl
 | some q =>
  simp only [putD,List.getElem?_set]
  rw [if_neg (fun e=>h (by rw [e]))]
theorem put_get_same (d:D) (e e':List D) (t:Nat) (hl:e.length=e'.length):(putD (some t) d e)[t]?=(putD (some t) d e')[t]?:=by
 simp [putD,List.getElem?_set,hl]
theorem env_agree {ops:Array Oper} {T:List TStep} {e:List D} {L L':Nat→Bool} {t:Nat}:∀ m,(∀ j,j<m→(ops[j]?).bind (·.dst)=some t→L j=L' j)→(envLm ops T e L m)[t]?=(envLm ops T e L' m)[t]?
 | 0,_=>rfl
 | m+1,h=>by
  have ih:=env_agree (T:=T) (e:=e) m fun j hj=>h j (by omega)
  simp only [envLm]
  by_cases hd:(ops[m]?).bind (·.dst)=some t
  ·have:=h m (by omega) hd
   rw [this]
   cases L' m
   ·exact ih
   ·simp only [cond_true,hd]
    exact put_get_same _ _ _ _ (by rw [envLm_length,envLm_length])
  ·have h1:∀ (b:Bool) (x:List D),(cond b (putD ((ops[m]?).bind (·.dst)) (tv T m) x) x)[t]?=x[t]?:=by
    intro b x
    cases b
    ·rfl
    ·exact put_get _ _ _ _ hd
   rw [h1,h1]
   exact ih
theorem env_more {ops:Array Oper} {T:List TStep} {e:List D} {L L':Nat→Bool} {i:Nat} (hi:L i=false) (hi':L' i=true) (hne:∀ j,j≠i→L' j=L j)
  : ∀ m,i<m→(∀ j,i<j→j<m→L j=true→∀ t,(ops[j]?).bind (·.dst)=some t→(ops[i]?).bind (·.dst)≠some t)→envLm ops T e L' m=putD ((ops[i]?).bind (·.dst)) (tv T i) (envLm ops T e L m)
 | 0,h,_=>by omega
 | m+1,h,hw=>by
  simp only [envLm]
  by_cases e1:m=i
  ·subst e1
   rw [hi',hi]
   simp only [cond_true,cond_false]
   congr 1
   have:∀ q,q≤m→envLm ops T e L' q=envLm ops T e L q:=by
    intro q
    induction q with
    | zero=>intro _;rfl
    | succ q ih=>intro hq;simp only [envLm,ih (by omega),hne q (by omega)]
   exact this m (Nat.le_refl _)
  ·rw [env_more hi hi' hne m (by omega) fun j h1 h2=>hw j h1 (by omega),hne m e1]
   cases hL:L m
   ·rfl
   ·simp only [cond_true]
    have hmw:=hw m (by omega) (by omega) hL
    generalize (ops[i]?).bind (·.dst)=di at hmw ⊢
    cases hdm:(ops[m]?).bind (·.dst) with
    | none=>rfl
    | some t =>
     have:=hmw t hdm
     cases di with
     | none=>rfl
     | some q =>
      simp only [putD]
      rw [List.set_comm]
      intro e
      exact this (by rw [e])
def stLm (P:Cx) (ops:Array Oper) (A:St) (T:List TStep) (L:Nat→Bool):Nat→St
 | 0=>A
 | m+1=>cond (L m && (ops[m]?).any (isEff P)) (tA A T (m+1)) (stLm P ops A T L m)
theorem st_agree {P:Cx} {ops:Array Oper} {A:St} {T:List TStep} {L L':Nat→Bool}:∀ m,(∀ j,j<m→(ops[j]?).any (isEff P)=true→L j=L' j)→stLm P ops A T L m=stLm P ops A T L' m
 | 0,_=>rfl
 | m+1,h=>by
  simp only [stLm,st_agree m fun j hj=>h j (by omega)]
  cases he:(ops[m]?).any (isEff P)
  ·simp
  ·rw [h m (by omega) he]
theorem st_upto {P:Cx} {ops:Array Oper} {A:St} {T:List TStep} (x:Nat) (hch:∀ m,m<x→(ops[m]?).any (isEff P)=false→tA A T (m+1)=tA A T m) :
  ∀ m,stLm P ops A T (fun j=>decide (j<x)) m=tA A T (min m x)
 | 0=>by simp [stLm,tA_zero]
 | m+1=>by
  simp only [stLm,st_upto x hch m]
  by_cases hm:m<x
  ·have h1:min (m+1) x=m+1:=by omega
   have h2:min m x=m:=by omega
   rw [h1,h2]
   cases he:(ops[m]?).any (isEff P)
   ·simp [hch m hm he]
   ·simp [hm]
  ·have h1:min (m+1) x=x:=by omega
   have h2:min m x=x:=by omega
   simp [hm,h1,h2]
theorem slot_between {P:Cx} {ops:Array Oper} {A:St} {T:List TStep} {β:Type} {F:St→β} (x:Nat):∀ d,(∀ m,x≤m→m<x+d→F (tA A T (m+1))=F (tA A T m))→F (tA A T (x+d))=F (tA A T x)
 | 0,_=>rfl
 | d+1,h=>by
  rw [show x+(d+1)=x+d+1 by omega,h (x+d) (by omega) (by omega)]
  exact slot_between (P:=P) (ops:=ops) x d fun m h1 h2=>h m h1 (by omega)
theorem first_loose {P:Cx} {ops:Array Oper} (L:Nat→Bool):∀ n,∃ x,x≤n∧(∀ m,m<x→(ops[m]?).any (isEff P)=true→L m=true)∧(x<n→(ops[x]?).any (isEff P)=true∧L x=false)
 | 0=>⟨0,Nat.le_refl _,fun m h=>by omega,fun h=>by omega⟩
 | n+1=>by
  obtain ⟨x,h1,h2,h3⟩:=first_loose (P:=P) (ops:=ops) L n
  by_cases hx:x<n
  ·exact ⟨x,by omega,h2,fun _=>h3 hx⟩
  ·have:x=n:=by omega
   subst this
   by_cases hc:(ops[x]?).any (isEff P)=true∧L x=false
   ·exact ⟨x,by omega,h2,fun _=>hc⟩
   ·refine ⟨x+1,by omega,fun m hm he=>?_,fun h=>by omega⟩
    by_cases e:m=x
    ·subst e
     cases hL:L m
     ·exact absurd ⟨he,hL⟩ hc
     ·rfl
    ·exact h2 m (by omega) he
theorem load_slot {P:Cx} {ops:Array Oper} {A:St} {T:List TStep} {L:Nat→Bool} {i N:Nat} (hN:N=ops.size) (hiN:i≤N)
  (hch:∀ m,m<N→(ops[m]?).any (isEff P)=false→tA A T (m+1)=tA A T m)
  (hord:∀ m m',m<m'→(ops[m]?).any (isEff P)=true→(ops[m']?).any (isEff P)=true→L m'=true→L m=true) {β:Type} (F:St→β)
  (hsame:∀ m,(ops[m]?).any (isEff P)=true→(m<i→L m=false)→(i<m→L m=true)→m≠i→F (tA A T (m+1))=F (tA A T m)) (hie:(ops[i]?).any (isEff P)=false) :
  F (stLm P ops A T L N)=F (tA A T i):=by
 obtain ⟨x,hx,h1,h2⟩:=first_loose (P:=P) (ops:=ops) L N
 have hagree:∀ j,j<N→(ops[j]?).any (isEff P)=true→L j=decide (j<x):=by
  intro j hj he
  by_cases hjx:j<x
  ·simp [hjx,h1 j hjx he]
  ·simp only [hjx,decide_false]
   by_cases hxN:x<N
   ·obtain ⟨q1,q2⟩:=h2 hxN
    by_cases e:j=x
    ·subst e;exact q2
    ·cases hL:L j
     ·rfl
     ·have:=hord x j (by omega) q1 he hL
      rw [q2] at this;cases this
   ·omega
 rw [st_agree N hagree,st_upto x (fun m hm=>hch m (by omega)) N,Nat.min_eq_right hx]
 -- a step that is no effect turns nothing
 have step:∀ m,m<N→((ops[m]?).any (isEff P)=true→F (tA A T (m+1))=F (tA A T m))→F (tA A T (m+1))=F (tA A T m):=by
  intro m hm h
  cases he:(ops[m]?).any (isEff P)
  ·rw [hch m hm he]
  ·exact h he
 rcases Nat.le_total x i with hxi|hix
 ·have:=slot_between (P:=P) (ops:=ops) (A:=A) (T:=T) (F:=F) x (i - x) fun m m1 m2=>step m (by omega) fun he=>by
   refine hsame m he (fun _=>?_) (fun h=>by omega) (by omega)
   rw [hagree m (by omega) he];simp;omega
  rw [show x+(i - x)=i by omega] at this
  exact this.symm
 ·have:=slot_between (P:=P) (ops:=ops) (A:=A) (T:=T) (F:=F) i (x - i) fun m m1 m2=>step m (by omega) fun he=>by
   refine hsame m he (fun h=>by omega) (fun _=>?_) (fun e=>by subst e;rw [hie] at he;cases he)
   rw [hagree m (by omega) he];simp;omega
  rw [show i+(x - i)=x by omega] at this
  exact this
end Go.Vm
