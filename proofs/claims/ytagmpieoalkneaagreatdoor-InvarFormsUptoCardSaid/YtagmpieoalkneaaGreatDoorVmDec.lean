/- VmLim, VmDec in one text. -/
import Derived.Test.YtagmpieoalkneaaGreatDoorVmDraw3
import Derived.Test.YtagmpieoalkneaaGreatDoorVmAbs
set_option linter.all false
/- The run without a bound on its rounds,and its equation. -/
namespace Go.Vm
open Go.RowKit

structure LimOf {α:Type} (F:Nat→Option α) (x:Option α):Prop where
 mono:∀ j r,F j=some r→F (j+1)=some r
 lim:∀ r,x=some r↔∃ j,F j=some r
theorem LimOf.le {α:Type} {F:Nat→Option α} {x:Option α} (h:LimOf F x) {j:Nat} {r:α} (hj:F j=some r):∀ i,j≤i→F i=some r:=by
 intro i hi
 induction i with
 | zero=>have:j=0:=by omega
         subst this;exact hj
 | succ i ih =>
  by_cases e:j=i+1
  ·subst e;exact hj
  ·exact h.mono i r (ih (by omega))
theorem LimOf.const {α:Type} (x:Option α):LimOf (fun _=>x) x:=⟨fun _ _ h=>h,fun r=>⟨fun h=>⟨0,h⟩,fun ⟨_,h⟩=>h⟩⟩
theorem LimOf.of_eq {α:Type} {F:Nat→Option α} {x:Option α} (h:∀ j,F j=x):LimOf F x:=by
 have:F=fun _=>x:=funext h
 rw [this];exact LimOf.const x
theorem LimOf.bind {α β:Type} {F:Nat→Option α} {x:Option α} {G:Nat→α→Option β} {g:α→Option β} (h:LimOf F x) (k:∀ a,LimOf (fun j=>G j a) (g a)) :
  LimOf (fun j=>(F j).bind (G j)) (x.bind g):=by
 refine ⟨fun j r hr=>?_,fun r=>⟨fun hr=>?_,fun ⟨j,hr⟩=>?_⟩⟩
 ·simp only [Option.bind_eq_some_iff] at hr ⊢
  obtain ⟨a,h1,h2⟩:=hr
  exact ⟨a,h.mono j a h1,(k a).mono j r h2⟩
 ·simp only [Option.bind_eq_some_iff] at hr ⊢
  obtain ⟨a,h1,h2⟩:=hr
  obtain ⟨j1,q1⟩:=(h.lim a).1 h1
  obtain ⟨j2,q2⟩:=((k a).lim r).1 h2
  exact ⟨max j1 j2,a,h.le q1 _ (by omega),(k a).le q2 _ (by omega)⟩
 ·simp only [Option.bind_eq_some_iff] at hr ⊢
  obtain ⟨a,h1,h2⟩:=hr
  exact ⟨a,(h.lim a).2 ⟨j,h1⟩,((k a).lim r).2 ⟨j,h2⟩⟩
theorem LimOf.map {α β:Type} {F:Nat→Option α} {x:Option α} (h:LimOf F x) (f:α→β):LimOf (fun j=>(F j).map f) (x.map f):=by
 have:=h.bind (G:=fun _ a=>some (f a)) (g:=fun a=>some (f a)) fun a=>LimOf.const _
 have e:∀ y:Option α,y.map f=y.bind fun a=>some (f a):=by intro y;cases y<;>rfl
 simpa only [e] using this
theorem LimOf.cond {α:Type} {F G:Nat→Option α} {x y:Option α} (b:Bool) (h:LimOf F x) (k:LimOf G y):LimOf (fun j=>cond b (F j) (G j)) (cond b x y):=by
 cases b
 ·exact k
 ·exact h
theorem LimOf.unique {α:Type} {F:Nat→Option α} {x y:Option α} (h:LimOf F x) (k:LimOf F y):x=y:=by
 cases hx:x with
 | some r=>exact (((k.lim r).2 ((h.lim r).1 hx))).symm
 | none =>
  cases hy:y with
  | none=>rfl
  | some r=>rw [(h.lim r).2 ((k.lim r).1 hy)] at hx;cases hx
open Classical in
noncomputable def limO {α:Type} (F:Nat→Option α):Option α:=if h:∃ j r,F j=some r then F (Classical.choose h) else none
theorem LimOf.of_mono {α:Type} {F:Nat→Option α} (h:∀ j r,F j=some r→F (j+1)=some r):LimOf F (limO F):=by
 have le:∀ {j r},F j=some r→∀ i,j≤i→F i=some r:=by
  intro j r hj i hi
  induction i with
  | zero=>have:j=0:=by omega
          subst this;exact hj
  | succ i ih =>
   by_cases e:j=i+1
   ·subst e;exact hj
   ·exact h i r (ih (by omega))
 refine ⟨h,fun r=>⟨fun hr=>?_,fun ⟨j,hj⟩=>?_⟩⟩
 ·unfold limO at hr
  split at hr
  ·exact ⟨_,hr⟩
  ·cases hr
 ·unfold limO
  have hex:∃ j r,F j=some r:=⟨j,r,hj⟩
  rw [dif_pos hex]
  obtain ⟨r',hr'⟩:=Classical.choose_spec hex
  rw [hr']
  have h1:=le hr' (max (Classical.choose hex) j) (by omega)
  have h2:=le hj (max (Classical.choose hex) j) (by omega)
  rw [h1] at h2
  exact h2

theorem iterN_le {s s':Env→St→Option Out} (h:∀ e A r,s e A=some r→s' e A=some r):∀ {n m:Nat},n≤m→∀ {e A r},iterN n s e A=some r→iterN m s' e A=some r
 | 0,m,_,e,A,r,hr=>by simp [iterN] at hr
 | n+1,0,hm,e,A,r,hr=>by omega
 | n+1,m+1,hm,e,A,r,hr=>by
  simp only [iterN,Option.bind_eq_some_iff] at hr ⊢
  obtain ⟨o,h1,h2⟩:=hr
  refine ⟨o,h _ _ _ h1, ?_⟩
  cases hx:o.ex<;>rw [hx] at h2<;>first|exact h2|exact iterN_le h (by omega) h2
theorem iterN_up {s:Nat→Env→St→Option Out} {sL:Env→St→Option Out} (hs:∀ e A,LimOf (fun j=>s j e A) (sL e A)):∀ {n:Nat} {e A r},iterN n sL e A=some r→∃ j,iterN n (s j) e A=some r
 | 0,e,A,r,hr=>by simp [iterN] at hr
 | n+1,e,A,r,hr=>by
  simp only [iterN,Option.bind_eq_some_iff] at hr
  obtain ⟨o,h1,h2⟩:=hr
  obtain ⟨j1,q1⟩:=((hs e A).lim o).1 h1
  cases hx:o.ex with
  | normal =>
   rw [hx] at h2
   obtain ⟨j2,q2⟩:=iterN_up hs h2
   refine ⟨max j1 j2, ?_⟩
   simp only [iterN,Option.bind_eq_some_iff]
   refine ⟨o,(hs e A).le q1 _ (by omega), ?_⟩
   rw [hx]
   exact iterN_le (fun e A r h=>(hs e A).le h _ (by omega)) (Nat.le_refl _) q2
  | exit i=>rw [hx] at h2;exact ⟨j1,by simp only [iterN,Option.bind_eq_some_iff];exact ⟨o,q1,by rw [hx];exact h2⟩⟩
  | ret=>rw [hx] at h2;exact ⟨j1,by simp only [iterN,Option.bind_eq_some_iff];exact ⟨o,q1,by rw [hx];exact h2⟩⟩
  | pan d=>rw [hx] at h2;exact ⟨j1,by simp only [iterN,Option.bind_eq_some_iff];exact ⟨o,q1,by rw [hx];exact h2⟩⟩
noncomputable def iterL (step:Env→St→Option Out) (e:Env) (A:St):Option Out:=limO fun k=>iterN k step e A
theorem iterL_lim (step:Env→St→Option Out) (e:Env) (A:St):LimOf (fun k=>iterN k step e A) (iterL step e A) :=
 LimOf.of_mono fun j r h=>iterN_le (fun _ _ _ h=>h) (Nat.le_succ _) h
theorem iterL_eq (step:Env→St→Option Out) (e:Env) (A:St):iterL step e A=(step e A).bind fun o=>match o.ex with
  | .normal=>iterL step o.env o.st
  | _=>some o:=by
 have h1:LimOf (fun k=>iterN (k+1) step e A) (iterL step e A):=by
  refine ⟨fun j r h=>(iterL_lim step e A).mono _ r h,fun r=>?_⟩
  rw [(iterL_lim step e A).lim r]
  exact ⟨fun ⟨j,h⟩=>⟨j,(iterL_lim step e A).mono j r h⟩,fun ⟨j,h⟩=>⟨j+1,h⟩⟩
 refine h1.unique ?_
 simp only [iterN]
 refine (LimOf.const (step e A)).bind fun o=>?_
 cases o.ex with
 | normal=>exact iterL_lim step o.env o.st
 | exit i=>exact LimOf.const _
 | ret=>exact LimOf.const _
 | pan d=>exact LimOf.const _

def ItLim (it:Nat→(Env→St→Option Out)→Env→St→Option Out) (itL:(Env→St→Option Out)→Env→St→Option Out):Prop :=
 ∀ (s:Nat→Env→St→Option Out) (sL:Env→St→Option Out),(∀ e A,LimOf (fun j=>s j e A) (sL e A))→∀ e A,LimOf (fun j=>it j (s j) e A) (itL sL e A)
theorem itLim_iter (n:Nat→Nat) (hn:∀ j,n j≤n (j+1)) {itL:(Env→St→Option Out)→Env→St→Option Out} (hL:∀ s e A r,itL s e A=some r↔∃ j,iterN (n j) s e A=some r) :
  ItLim (fun j=>iterN (n j)) itL:=by
 intro s sL hs e A
 refine ⟨fun j r h=>iterN_le (fun e A r h=>(hs e A).mono j r h) (hn j) h,fun r=>?_⟩
 rw [hL]
 constructor
 ·rintro ⟨j,hj⟩
  obtain ⟨j',hj'⟩:=iterN_up hs hj
  have hmono:∀ i,j≤i→n j≤n i:=by
   intro i hi
   induction i with
   | zero=>have:j=0:=by omega
           subst this;exact Nat.le_refl _
   | succ i ih =>
    by_cases e:j=i+1
    ·subst e;exact Nat.le_refl _
    ·exact Nat.le_trans (ih (by omega)) (hn i)
  exact ⟨max j j',iterN_le (fun e A r h=>(hs e A).le h _ (by omega)) (hmono _ (by omega)) hj'⟩
 ·rintro ⟨j,hj⟩
  exact ⟨j,iterN_le (fun e A r h=>((hs e A).lim r).2 ⟨j,h⟩) (Nat.le_refl _) hj⟩

section
variable {P:Program} {h:Hints} {n:Nat} {fi:FuncId} {call:Nat→FuncId→List D→St→ORes} {callL:FuncId→List D→St→ORes}
 {it:Nat→(Env→St→Option Out)→Env→St→Option Out} {itL:(Env→St→Option Out)→Env→St→Option Out}
 (hc:∀ f ds A,LimOf (fun j=>call j f ds A) (callL f ds A)) (hi:ItLim it itL)
include hc
theorem apply_lim (f:D) (args:List D) (A:St):LimOf (fun j=>applyD (call j) f args A) (applyD callL f args A):=by
 unfold applyD
 split
 ·exact hc _ _ _
 ·split
  ·exact hc _ _ _
  ·exact LimOf.const _
 ·exact LimOf.const _
theorem callD_lim (e:List D) (op:Op) (A:St):LimOf (fun j=>callD (call j) e op A) (callD callL e op A):=by
 unfold callD
 split
 ·exact apply_lim hc _ _ _
 ·exact LimOf.const _
 ·exact LimOf.const _
 ·exact LimOf.const _
theorem ops_lim (ops:Array Oper):∀ (os:List Oper) (e:Env) (A:St),LimOf (fun j=>opsD ⟨P,h,call j,it j,n,fi⟩ ops os e A) (opsD ⟨P,h,callL,itL,n,fi⟩ ops os e A)
 | [],e,A=>LimOf.const _
 | o::os,e,A=>by
  simp only [opsD]
  refine (LimOf.const _).bind fun w=>?_
  split
  ·exact (LimOf.const _).bind fun d=>ops_lim ops os _ _
  ·exact (LimOf.const _).bind fun d=>ops_lim ops os _ _
  ·refine (LimOf.cond w (callD_lim hc _ _ _) (LimOf.const _)).bind fun r=>?_
   cases r.1 with
   | ret d=>exact ops_lim ops os _ _
   | pan d=>exact LimOf.const _
  ·exact LimOf.cond w ((LimOf.const _).bind fun d=>ops_lim ops os _ _) (LimOf.const _)
  ·exact LimOf.const _
theorem trace_lim (ops:Array Oper):∀ (os:List Oper) (k:Nat) (e:List D) (A:St),LimOf (fun j=>traceD ⟨P,h,call j,it j,n,fi⟩ ops os k e A) (traceD ⟨P,h,callL,itL,n,fi⟩ ops os k e A)
 | [],k,e,A=>LimOf.const _
 | o::os,k,e,A=>by
  simp only [traceD,show ∀ j,drK (⟨P,h,call j,it j,n,fi⟩:Cx) o.op=drK ⟨P,h,callL,itL,n,fi⟩ o.op from fun _=>rfl]
  refine (LimOf.const _).bind fun w=>?_
  split
  ·exact (LimOf.const _).bind fun d=>(trace_lim ops os _ _ _).map _
  ·exact (LimOf.const _).bind fun d=>(trace_lim ops os _ _ _).map _
  ·exact (LimOf.const _).bind fun d=>(trace_lim ops os _ _ _).map _
  ·split
   ·refine (LimOf.cond w (callD_lim hc _ _ _) (LimOf.const _)).bind fun r=>?_
    cases r.1 with
    | ret d=>exact (trace_lim ops os _ _ _).map _
    | pan d=>exact LimOf.const _
   ·exact (LimOf.const _).bind fun d=>(trace_lim ops os _ _ _).map _
  ·exact LimOf.const _
omit hc in
theorem head_lim (j:Nat):∀ os:List Oper,headD (⟨P,h,call j,it j,n,fi⟩:Cx) os=headD ⟨P,h,callL,itL,n,fi⟩ os
 | []=>rfl
 | o::os=>by
  simp only [headD,head_lim j os,show drK (⟨P,h,call j,it j,n,fi⟩:Cx) o.op=drK ⟨P,h,callL,itL,n,fi⟩ o.op from rfl]
theorem draw_lim (ops:Array Oper) (e:Env) (A:St):LimOf (fun j=>drawD ⟨P,h,call j,it j,n,fi⟩ ops e A) (drawD ⟨P,h,callL,itL,n,fi⟩ ops e A):=by
 unfold drawD
 simp only [head_lim (h:=h) (callL:=callL) (itL:=itL)]
 exact (LimOf.const _).bind fun H=>(trace_lim hc ops _ _ _ _).bind fun r=>LimOf.of_eq fun j=>rfl
include hi
theorem code_lim:∀ (c:Code) (e:Env) (A:St),LimOf (fun j=>codeD ⟨P,h,call j,it j,n,fi⟩ c e A) (codeD ⟨P,h,callL,itL,n,fi⟩ c e A):=by
 intro c
 induction c with
 | region id ops draw =>
  intro e A
  simp only [codeD]
  exact LimOf.cond draw (draw_lim hc ops e A) (ops_lim hc ops _ e A)
 | seq x y ihx ihy =>
  intro e A
  simp only [codeD]
  refine (ihx e A).bind fun o=>?_
  unfold Out.seq
  split
  ·exact ihy _ _
  ·exact LimOf.const _
 | cond c x y ihx ihy =>
  intro e A
  simp only [codeD]
  exact (LimOf.const _).bind fun t=>(LimOf.cond t (ihx e A) (ihy e A)).map _
 | block id c ih =>
  intro e A
  simp only [codeD]
  exact (ih e A).map _
 | loop c ih =>
  intro e A
  simp only [codeD]
  refine hi _ _ (fun e A=>?_) _ _
  unfold stepD
  exact (ih _ A).bind fun o=>LimOf.const _
 | skip=>intro e A;exact LimOf.const _
 | label l=>intro e A;exact LimOf.const _
 | exit id=>intro e A;exact LimOf.const _
 | ret=>intro e A;exact LimOf.const _
 | rangeFunc f ps x y =>
  intro e A
  simp only [codeD]
  refine LimOf.cond _ (LimOf.bind ?_ fun r=>LimOf.const _) (LimOf.const _)
  unfold seqCall
  split
  ·exact LimOf.cond _ (hc _ _ _) (LimOf.const _)
  ·exact LimOf.const _
 | scope c=>intro e A;exact LimOf.const _
 | goto l=>intro e A;exact LimOf.const _
 | refuse s=>intro e A;exact LimOf.const _
theorem opsS_lim (ops:Array Oper):∀ (os:List Oper) (e:Env) (ps:PS) (A:St),LimOf (fun j=>opsSD ⟨P,h,call j,it j,n,fi⟩ ops os e ps A) (opsSD ⟨P,h,callL,itL,n,fi⟩ ops os e ps A)
 | [],e,ps,A=>LimOf.const _
 | o::os,e,ps,A=>by
  simp only [opsSD]
  refine LimOf.cond _ (LimOf.cond _ (opsS_lim ops os _ _ _) (LimOf.const _)) ((LimOf.cond _ (LimOf.const _) (ops_lim hc ops _ e A)).bind fun r=>?_)
  split
  ·exact opsS_lim ops os _ _ _
  ·exact LimOf.const _
theorem codeS_lim:∀ (c:Code) (e:Env) (ps:PS) (A:St),LimOf (fun j=>codeSD ⟨P,h,call j,it j,n,fi⟩ c e ps A) (codeSD ⟨P,h,callL,itL,n,fi⟩ c e ps A):=by
 intro c
 induction c with
 | seq x y ihx ihy =>
  intro e ps A
  simp only [codeSD]
  refine (ihx e ps A).bind fun o=>?_
  unfold SOut.seq
  split
  ·exact ihy _ _ _
  ·exact LimOf.const _
 | cond c x y ihx ihy =>
  intro e ps A
  simp only [codeSD]
  exact (LimOf.const _).bind fun t=>LimOf.cond t (ihx e ps A) (ihy e ps A)
 | region id ops draw =>
  intro e ps A
  simp only [codeSD]
  exact LimOf.cond _ (LimOf.cond draw (LimOf.const _) (opsS_lim hc hi ops _ e ps A)) ((code_lim hc hi _ e A).map _)
 | skip=>intro e ps A;exact (LimOf.cond _ (code_lim hc hi .skip e A) (LimOf.const _)).map _
 | label l=>intro e ps A;exact (LimOf.cond _ (code_lim hc hi (.label l) e A) (LimOf.const _)).map _
 | exit id=>intro e ps A;exact (LimOf.cond _ (code_lim hc hi (.exit id) e A) (LimOf.const _)).map _
 | ret=>intro e ps A;exact (LimOf.cond _ (code_lim hc hi .ret e A) (LimOf.const _)).map _
 | block id c ih=>intro e ps A;exact (LimOf.cond _ (code_lim hc hi (.block id c) e A) (LimOf.const _)).map _
 | loop c ih=>intro e ps A;exact (LimOf.cond _ (code_lim hc hi (.loop c) e A) (LimOf.const _)).map _
 | rangeFunc f ps' x y=>intro e ps A;exact (LimOf.cond _ (code_lim hc hi (.rangeFunc f ps' x y) e A) (LimOf.const _)).map _
 | scope c=>intro e ps A;exact (LimOf.cond _ (code_lim hc hi (.scope c) e A) (LimOf.const _)).map _
 | goto l=>intro e ps A;exact (LimOf.cond _ (code_lim hc hi (.goto l) e A) (LimOf.const _)).map _
 | refuse s=>intro e ps A;exact (LimOf.cond _ (code_lim hc hi (.refuse s) e A) (LimOf.const _)).map _
theorem def_lim (fn:Func) (args:List D) (p:Option D) (A:St):LimOf (fun j=>defD ⟨P,h,call j,it j,n,fi⟩ fn args p A) (defD ⟨P,h,callL,itL,n,fi⟩ fn args p A):=by
 unfold defD
 dsimp only
 exact LimOf.cond _ ((LimOf.const _).bind fun c=>(codeS_lim hc hi c _ _ _).bind fun o=>LimOf.const _) (LimOf.const _)
omit hc hi in
theorem leaves_lim {dcall:Nat→D→List D→Option D→St→Option (Option D×St)} {dcallL:D→List D→Option D→St→Option (Option D×St)}
  (hd:∀ f args p A,LimOf (fun j=>dcall j f args p A) (dcallL f args p A)) (res:St→Option D):∀ (dfs:List (D×List D)) (p:Option D) (A:St),
  LimOf (fun j=>leavesD (dcall j) res dfs p A) (leavesD dcallL res dfs p A)
 | [],none,A=>LimOf.const _
 | [],some p,A=>LimOf.const _
 | (f,args)::r,p,A=>by
  simp only [leavesD]
  split
  ·split
   ·exact leaves_lim hd res r _ _
   ·exact LimOf.const _
  ·exact (hd _ args p A).bind fun x=>leaves_lim hd res r _ _
theorem fun_lim {dcall:Nat→D→List D→Option D→St→Option (Option D×St)} {dcallL:D→List D→Option D→St→Option (Option D×St)}
  (hd:∀ f args p A,LimOf (fun j=>dcall j f args p A) (dcallL f args p A)) (fn:Func) (args:List D) (A:St) :
  LimOf (fun j=>funD ⟨P,h,call j,it j,n,fi⟩ (dcall j) fn args A) (funD ⟨P,h,callL,itL,n,fi⟩ dcallL fn args A):=by
 unfold funD
 dsimp only
 refine LimOf.cond _ ((LimOf.const _).bind fun c=>(code_lim hc hi c _ _).bind fun o=>?_) (LimOf.const _)
 refine LimOf.bind ?_ fun r=>LimOf.const _
 unfold Out.leave
 split
 ·exact leaves_lim hd _ _ _ _
 ·exact leaves_lim hd _ _ _ _
 ·exact leaves_lim hd _ _ _ _
 ·exact LimOf.const _
theorem round_lim (k:Nat) (t:List D) (rf:Code) (args:List D) (A:St):LimOf (fun j=>roundC ⟨P,h,call j,it j,n,fi⟩ k t rf args A) (roundC ⟨P,h,callL,itL,n,fi⟩ k t rf args A):=by
 unfold roundC
 split
 ·rename_i g0 ps x y
  dsimp only
  refine LimOf.cond _ (LimOf.bind (code_lim hc hi x _ A) fun o1=>?_) (LimOf.const _)
  split
  ·exact (LimOf.const _).bind fun A2=>LimOf.bind (code_lim hc hi y _ _) fun o=>LimOf.const _
  ·exact LimOf.const _
 ·exact LimOf.const _
theorem body_lim (H:Ext0) (f:FuncId) (args:List D) (A:St):LimOf (fun j=>bodyD P H (call j) (it j) f args A) (bodyD P H callL itL f args A):=by
 unfold bodyD
 refine LimOf.cond _ ?_ ?_
 ·unfold roundD
  split
  ·split
   ·exact (LimOf.const _).bind fun fn=>round_lim hc hi _ _ _ _ _
   ·exact LimOf.const _
  ·exact LimOf.const _
 split
 ·exact LimOf.const _
 ·refine (LimOf.const _).bind fun fn=>LimOf.cond _ ?_ (LimOf.const _)
  refine fun_lim hc hi (dcall:=fun j=>dcallD P H (call j) (it j)) (fun f' args' p A'=>?_) fn args A
  unfold dcallD
  split
  ·exact (LimOf.const _).bind fun fn'=>LimOf.cond _ (def_lim hc hi fn' _ _ _) (LimOf.const _)
  ·exact LimOf.const _
end

theorem runN_mono (P:Program) (H:Ext0):∀ k f args A r,runN P H k f args A=some r→runN P H (k+1) f args A=some r:=by
 intro k
 induction k with
 | zero=>intro f args A r h;simp [runN] at h
 | succ k ih =>
  intro f args A r h
  -- two steps as a sequence
  have hc:∀ f ds A,LimOf (fun j=>runN P H (if j=0 then k else k+1) f ds A) (runN P H (k+1) f ds A):=by
   intro f ds A
   refine ⟨fun j r h=>?_,fun r=>⟨fun h=>⟨1,by simpa using h⟩,fun ⟨j,h⟩=>?_⟩⟩
   ·by_cases e:j=0
    ·subst e;simp at h ⊢;exact ih _ _ _ _ h
    ·simpa [e] using h
   ·by_cases e:j=0
    ·subst e;simp at h;exact ih _ _ _ _ h
    ·simpa [e] using h
  have hi:ItLim (fun j=>iterN (if j=0 then k else k+1)) (iterN (k+1)):=by
   refine itLim_iter _ (fun j=>?_) fun s e A r=>⟨fun h=>⟨1,by simpa using h⟩,fun ⟨j,h⟩=>?_⟩
   ·by_cases e:j=0
    ·simp [e]
    ·simp [e]
   ·by_cases e:j=0
    ·subst e;simp at h;exact iterN_le (fun _ _ _ h=>h) (Nat.le_succ _) h
    ·simpa [e] using h
  have hb:=body_lim (P:=P) hc hi H f args A
  have h0:bodyD P H (runN P H k) (iterN k) f args A=some r:=h
  have:=hb.mono 0 r (by simpa using h0)
  simpa [runN] using this
noncomputable def Run (P:Program) (H:Ext0) (f:FuncId) (args:List D) (A:St):ORes:=limO fun k=>runN P H k f args A
theorem Run_lim (P:Program) (H:Ext0) (f:FuncId) (args:List D) (A:St):LimOf (fun k=>runN P H k f args A) (Run P H f args A) :=
 LimOf.of_mono fun k r h=>runN_mono P H k f args A r h
theorem Run_eq (P:Program) (H:Ext0) (f:FuncId) (args:List D) (A:St):Run P H f args A=bodyD P H (Run P H) iterL f args A:=by
 have h1:LimOf (fun k=>runN P H (k+1) f args A) (Run P H f args A):=by
  refine ⟨fun j r h=>(Run_lim P H f args A).mono _ r h,fun r=>?_⟩
  rw [(Run_lim P H f args A).lim r]
  exact ⟨fun ⟨j,h⟩=>⟨j,(Run_lim P H f args A).mono j r h⟩,fun ⟨j,h⟩=>⟨j+1,h⟩⟩
 refine h1.unique ?_
 simp only [runN]
 exact body_lim (fun f ds A=>Run_lim P H f ds A) (itLim_iter (fun j=>j) (fun j=>Nat.le_succ j) fun s e A r=>(iterL_lim s e A).lim r) H f args A
theorem Run_sound (P:Program) (H:Ext0) (hx:ExtOk P H):CallOk P (Run P H):=by
 intro f ds A r h
 obtain ⟨k,hk⟩:=((Run_lim P H f ds A).lim r).1 h
 exact run_sim P H hx (fun X hX hc=>draw_sim X (hX ▸ hc)) k f ds A r hk
end Go.Vm

/- Whether data are closed at a bound,and whether two are the same,reckoned. -/
namespace Go.Vm
mutual
def D.shutB (n:Nat):D→Bool
 | .agg cs=>D.shutLB n cs
 | .tup ds=>D.shutLB n ds
 | .sl o es ds=>(match o with|.own c _=>decide (c<n)|_=>true) && D.shutLB n ds
 | .vsl k _ _ _=>decide (k<n)
 | .ref k _=>decide (k<n)
 | .peek cs=>D.shutLB n cs
 | .fn _ a b=>D.shutLB n a && D.shutLB n b
 | .iface _ d=>d.shutB n
 | .yld _ k=>decide (k<n)
 | .mp k=>decide (k<n)
 | _=>true
def D.shutLB (n:Nat):List D→Bool
 | []=>true
 | d::r=>d.shutB n && D.shutLB n r
end
mutual
theorem D.shutB_eq (n:Nat):∀ d:D,d.shutB n=true→d.shut n=d
 | .agg cs,h=>by simp only [D.shutB] at h;simp only [D.shut,D.shutLB_eq n cs h]
 | .tup ds,h=>by simp only [D.shutB] at h;simp only [D.shut,D.shutLB_eq n ds h]
 | .sl o es ds,h=>by
  simp only [D.shutB,Bool.and_eq_true] at h
  simp only [D.shut,D.shutLB_eq n ds h.2]
  cases o with
  | own c s=>simp only [decide_eq_true_eq] at h;simp [Own.shut,h.1]
  | sh=>rfl
  | full=>rfl
 | .vsl k _ _ _,h=>by simp only [D.shutB,decide_eq_true_eq] at h;simp [D.shut,h]
 | .ref k _,h=>by simp only [D.shutB,decide_eq_true_eq] at h;simp [D.shut,h]
 | .peek cs,h=>by simp only [D.shutB] at h;simp only [D.shut,D.shutLB_eq n cs h]
 | .fn _ a b,h=>by simp only [D.shutB,Bool.and_eq_true] at h;simp only [D.shut,D.shutLB_eq n a h.1,D.shutLB_eq n b h.2]
 | .iface _ d,h=>by simp only [D.shutB] at h;simp only [D.shut,D.shutB_eq n d h]
 | .yld _ k,h=>by simp only [D.shutB,decide_eq_true_eq] at h;simp [D.shut,h]
 | .mp k,h=>by simp only [D.shutB,decide_eq_true_eq] at h;simp [D.shut,h]
 | .any,_=>by simp [D.shut]
 | .bool _,_=>by simp [D.shut]
 | .int _ _,_=>by simp [D.shut]
 | .str _,_=>by simp [D.shut]
 | .val _,_=>by simp [D.shut]
theorem D.shutLB_eq (n:Nat):∀ ds:List D,D.shutLB n ds=true→D.shutL n ds=ds
 | [],_=>by simp [D.shutL]
 | d::r,h=>by
  simp only [D.shutLB,Bool.and_eq_true] at h
  simp only [D.shutL,D.shutB_eq n d h.1,D.shutLB_eq n r h.2]
end
def Slot.shutB (n:Nat):Slot→Bool
 | .cells cs=>D.shutLB n cs
 | .loop _ t _ _=>D.shutLB n t
 | .map _ _ vs _ _=>D.shutLB n vs
 | _=>true
theorem Slot.shutB_eq (n:Nat) (s:Slot) (h:s.shutB n=true):s.shut n=s:=by
 cases s with
 | cells cs=>simp only [Slot.shutB] at h;simp only [Slot.shut,D.shutLB_eq n _ h]
 | loop f t rf st=>simp only [Slot.shutB] at h;simp only [Slot.shut,D.shutLB_eq n _ h]
 | map kt ks vs bs c=>simp only [Slot.shutB] at h;simp only [Slot.shut,D.shutLB_eq n _ h]
 | _=>rfl
def shutAllB (n:Nat):Nat→St→Bool
 | 0,_=>true
 | _+1,[]=>false
 | k+1,s::r=>s.shutB n && shutAllB n k r
theorem shutAllB_eq (n:Nat):∀ (k:Nat) (A:St),shutAllB n k A=true→∀ i,i<k→∃ s,A[i]?=some s∧s.shut n=s
 | 0,_,_,i,hi=>by omega
 | k+1,[],h,i,hi=>by simp [shutAllB] at h
 | k+1,s::r,h,i,hi=>by
  simp only [shutAllB,Bool.and_eq_true] at h
  cases i with
  | zero=>exact ⟨s,rfl,Slot.shutB_eq n s h.1⟩
  | succ i=>simpa using shutAllB_eq n k r h.2 i (by omega)
def keptB (A A':St):Bool:=shutAllB A.length A.length A'
theorem keptB_eq {A A':St} (h:keptB A A'=true):Kept A A':=by
 refine ⟨?_,fun k hk=>.inr (shutAllB_eq _ _ _ h k hk)⟩
 cases hA:A.length with
 | zero=>exact Nat.zero_le _
 | succ n =>
  obtain ⟨s,hs,_⟩:=shutAllB_eq _ _ _ h n (by omega)
  exact (List.getElem?_eq_some_iff.1 hs).1
mutual
def D.eqb:D→D→Bool
 | .any,.any=>true
 | .bool a,.bool b=>a == b
 | .int k a,.int k' b=>decide (k=k') && a == b
 | .str a,.str b=>a == b
 | .agg a,.agg b=>D.eqbL a b
 | .tup a,.tup b=>D.eqbL a b
 | .sl o es ds,.sl o' es' ds'=>decide (o=o') && es == es' && D.eqbL ds ds'
 | .vsl k a b c,.vsl k' a' b' c'=>k == k' && a == a' && b == b' && c == c'
 | .ref k a,.ref k' a'=>k == k' && a == a'
 | .peek a,.peek b=>D.eqbL a b
 | .iface t a,.iface t' b=>t == t' && D.eqb a b
 | .yld m k,.yld m' k'=>m == m' && k == k'
 | .mp k,.mp k'=>k == k'
 | .val (.pointer none),.val (.pointer none)=>true
 | .val .nilIface,.val .nilIface=>true
 | .val .nilFunc,.val .nilFunc=>true
 | .fn (.func f) a b,.fn (.func f') a' b'=>f == f' && D.eqbL a a' && D.eqbL b b'
 | _,_=>false
def D.eqbL:List D→List D→Bool
 | [],[]=>true
 | a::r,b::s=>D.eqb a b && D.eqbL r s
 | _,_=>false
end
mutual
theorem D.eqb_eq:∀ (x y:D),D.eqb x y=true→x=y
 | .any,y,h=>by cases y<;>simp_all [D.eqb]
 | .bool a,y,h=>by cases y<;>simp_all [D.eqb]
 | .int k a,y,h=>by cases y<;>simp_all [D.eqb]
 | .str a,y,h=>by cases y<;>simp_all [D.eqb]
 | .agg a,y,h=>by
  cases y<;>simp only [D.eqb,Bool.false_eq_true] at h
  rw [D.eqbL_eq _ _ h]
 | .tup a,y,h=>by
  cases y<;>simp only [D.eqb,Bool.false_eq_true] at h
  rw [D.eqbL_eq _ _ h]
 | .sl o es ds,y,h=>by
  cases y<;>simp only [D.eqb,Bool.false_eq_true,Bool.and_eq_true,decide_eq_true_eq,beq_iff_eq] at h
  rw [h.1.1,h.1.2,D.eqbL_eq _ _ h.2]
 | .vsl k a b c,y,h=>by cases y<;>simp_all [D.eqb]
 | .ref k a,y,h=>by cases y<;>simp_all [D.eqb]
 | .peek a,y,h=>by
  cases y<;>simp only [D.eqb,Bool.false_eq_true] at h
  rw [D.eqbL_eq _ _ h]
 | .iface t a,y,h=>by
  cases y<;>simp only [D.eqb,Bool.false_eq_true,Bool.and_eq_true,beq_iff_eq] at h
  rw [h.1,D.eqb_eq _ _ h.2]
 | .yld m k,y,h=>by cases y<;>simp_all [D.eqb]
 | .mp k,y,h=>by cases y<;>simp_all [D.eqb]
 | .val v,y,h=>by
  cases y<;>try (simp [D.eqb] at h;done)
  unfold D.eqb at h
  split at h<;>simp_all
 | .fn f a b,.fn f' a' b',h=>by
  cases f<;>cases f'<;>simp only [D.eqb,Bool.false_eq_true,Bool.and_eq_true,beq_iff_eq] at h
  rw [h.1.1,D.eqbL_eq _ _ h.1.2,D.eqbL_eq _ _ h.2]
 | .fn f a b,.any,h|.fn f a b,.bool _,h|.fn f a b,.int _ _,h|.fn f a b,.str _,h|.fn f a b,.val _,h|.fn f a b,.agg _,h|.fn f a b,.tup _,h
 | .fn f a b,.sl _ _ _,h|.fn f a b,.vsl _ _ _ _,h|.fn f a b,.ref _ _,h|.fn f a b,.peek _,h|.fn f a b,.iface _ _,h|.fn f a b,.yld _ _,h|.fn f a b,.mp _,h=>by simp [D.eqb] at h
theorem D.eqbL_eq:∀ (x y:List D),D.eqbL x y=true→x=y
 | [],y,h=>by cases y<;>simp_all [D.eqbL]
 | a::r,y,h=>by
  cases y<;>simp only [D.eqbL,Bool.false_eq_true,Bool.and_eq_true] at h
  rw [D.eqb_eq _ _ h.1,D.eqbL_eq _ _ h.2]
end
end Go.Vm
