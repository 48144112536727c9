/- VmR3, VmR4, VmR5 in one text. -/
import Derived.Test.YtagmpieoalkneaaGreatDoorVmR2
set_option linter.all false
/- Which regions may draw their order: reckoned by masks;their runs as they are read off. -/
namespace Go.Vm
open Go.RowKit

variable {β:Type}
def drawOkC (X:Cx) (ops:Array Oper) (c:Nat→Nat→Bool):Bool :=
 X.P.follows .mixedOrders &&
 (ops.toList.zipIdx.all fun x=>(bindsOn x.1).all (·<x.2)) &&
 (ops.toList.all fun o=>(match o.op with|.select ..=>false|_=>true) && (hintOf X.h o.dst).isEmpty) &&
 (ops.toList.zipIdx.all fun x=>ops.toList.zipIdx.all fun y=>decide (y.2≤x.2) ||
  (let before:=c y.2 x.2
   before ||
   (!(isEff X x.1 && isEff X y.1) &&
    (match x.1.dst with|some t=>!(looks ops y.1).contains t && y.1.dst != some t|none=>true) &&
    (match y.1.dst with|some t=>!(looks ops x.1).contains t|none=>true))))
def panC (ops:Array Oper) (c:Nat→Nat→Bool) (i:Nat):Bool :=
 ops.toList.zipIdx.all fun y=>decide (y.2≤i) || c y.2 i || (match y.1.op with|.move _|.assign _=>y.1.guard.isNone|_=>false)
def looseC (X:Cx) (ops:Array Oper) (c:Nat→Nat→Bool):List (Nat×Nat) :=
 (ops.toList.zipIdx.filter fun x=>isLoad X x.1).flatMap fun x=>((ops.toList.zipIdx.filter fun y=>isEff X y.1).filter fun y =>
  !(c x.2 y.2 || c y.2 x.2)).map fun y=>(x.2,y.2)
def inL (an:List (List Nat)) (y x:Nat):Bool:=(an.getD y []).contains x
theorem drawOk_none (X:Cx) (ops:Array Oper) (an:List (List Nat)):drawOk X ops an none=drawOkC X ops (inL an):=by
 unfold drawOk drawOkC inL
 simp only [Bool.and_true]
 rfl
theorem drawOk_some (X:Cx) (ops:Array Oper) (an:List (List Nat)) (i:Nat):drawOk X ops an (some i)=(drawOkC X ops (inL an) && panC ops (inL an) i):=rfl
def ancM (ops:Array Oper):List Nat :=
 ops.toList.foldl (fun acc o=>acc++[(bindsOn o).foldl (fun m i=>m ||| 1 <<< i ||| acc.getD i 0) 0]) []
def inM (an:List Nat) (y x:Nat):Bool:=Nat.testBit (an.getD y 0) x
theorem foldM_bit (f:Nat→Nat) (x:Nat):∀ (l:List Nat) (m:Nat),Nat.testBit (l.foldl (fun m i=>m ||| 1 <<< i ||| f i) m) x=(Nat.testBit m x || l.any fun i=>i == x || Nat.testBit (f i) x)
 | [],m=>by simp
 | i::l,m=>by
  rw [List.foldl_cons,foldM_bit f x l]
  simp only [Nat.testBit_or,List.any_cons,Nat.one_shiftLeft,Nat.testBit_two_pow]
  cases Nat.testBit m x<;>cases Nat.testBit (f i) x<;>by_cases h:i=x<;>simp [h]
theorem ancM_fold:∀ (os:List Oper) (a:List (List Nat)) (b:List Nat),a.length=b.length→(∀ y x,inL a y x=inM b y x) →
  ∀ y x,inL (os.foldl (fun acc o=>acc++[((bindsOn o)++(bindsOn o).flatMap (fun j=>acc.getD j [])).eraseDups]) a) y x =
   inM (os.foldl (fun acc o=>acc++[(bindsOn o).foldl (fun m i=>m ||| 1 <<< i ||| acc.getD i 0) 0]) b) y x
 | [],a,b,hl,h,y,x=>h y x
 | o::os,a,b,hl,h,y,x=>by
  rw [List.foldl_cons,List.foldl_cons]
  refine ancM_fold os _ _ (by simp [hl]) (fun y x=>?_) y x
  by_cases hy:y<a.length
  ·have:=h y x
   unfold inL inM at this ⊢
   simp only [List.getD_eq_getElem?_getD] at this ⊢
   rw [List.getElem?_append_left hy,List.getElem?_append_left (hl ▸ hy)]
   exact this
  ·by_cases hy':y=a.length
   ·subst hy'
    unfold inL inM
    have e1:∀ (z:List Nat),(a++[z]).getD a.length []=z:=fun z=>by simp
    have e2:∀ (z:Nat),(b++[z]).getD a.length 0=z:=fun z=>by rw [hl];simp
    rw [e1,e2,foldM_bit]
    simp only [Nat.zero_testBit,Bool.false_or]
    rw [Bool.eq_iff_iff]
    simp only [List.contains_iff_mem,List.mem_eraseDups,List.mem_append,List.mem_flatMap,List.any_eq_true,Bool.or_eq_true,beq_iff_eq]
    have hh:∀ i,x ∈ a.getD i []↔Nat.testBit (b.getD i 0) x=true:=fun i=>by
     have:=h i x
     unfold inL inM at this
     rw [← this,List.contains_iff_mem]
    constructor
    ·rintro (h1|⟨i,h1,h2⟩)
     ·exact ⟨x,h1,.inl rfl⟩
     ·exact ⟨i,h1,.inr ((hh i).1 h2)⟩
    ·rintro ⟨i,h1,h2|h2⟩
     ·subst h2;exact .inl h1
     ·exact .inr ⟨i,h1,(hh i).2 h2⟩
   ·unfold inL inM
    have h1:∀ z:List Nat,(a++[z]).getD y []=[]:=fun z=>by
     rw [List.getD_eq_getElem?_getD,List.getElem?_eq_none (by simp;omega)];rfl
    have h2:∀ z:Nat,(b++[z]).getD y 0=0:=fun z=>by
     rw [List.getD_eq_getElem?_getD,List.getElem?_eq_none (by simp;omega)];rfl
    rw [h1,h2];simp
theorem anc_eq (ops:Array Oper):inL (ancAll ops)=inM (ancM ops):=by
 funext y x
 exact ancM_fold ops.toList [] [] rfl (fun y x=>by simp [inL,inM]) y x
def okDrawC (X:Cx) (ops:Array Oper) (c:Nat→Nat→Bool) (pan:List Nat) (loose:List (Nat×Nat)):Bool :=
 drawOkC X ops c && (looseC X ops c == loose) &&
 (ops.toList.zipIdx.all fun x=>match opK X.P x.1.op with|.call=>panC ops c x.2 == !pan.contains x.2|_=>true)
def okDraw (P:Program) (h:Hints) (ops:Array Oper) (pan:List Nat) (loose:List (Nat×Nat)):Bool:=okDrawC (bareX P h) ops (inM (ancM ops)) pan loose
def pairsR (T:List TStep):List (Nat×Nat)→List (D×St×St)
 | []=>[]
 | p::r=>match T[p.1]?,T[p.2]? with
  | some l,some m=>(l.ad,m.A,m.A')::pairsR T r
  | _,_=>pairsR T r
theorem pairsR_iff (T:List TStep):∀ l,smP (pairsR T l)↔allSame T l
 | []=>Iff.rfl
 | p::r=>by
  unfold pairsR allSame sameAt
  split
  ·rename_i l m h1 h2
   rw [h1,h2]
   simp only [smP,pairsR_iff T r,sameAd]
  ·rename_i hh
   split
   ·rename_i l m h1 h2;exact absurd h2 (hh l m h1)
   ·simp only [true_and];exact pairsR_iff T r
def gsR (M:Mode) (l:List (D×St×St)) (x:Option β):Option β :=
 match l with
 | []=>x
 | a::r=>gsM M (a::r) x
theorem gsR_eq (l:List (D×St×St)) (x:Option β):gsR mL l x=guardP (smP l) x:=by
 cases l with
 | nil=>exact (qae x).symm
 | cons a r=>rfl
def appR (A:St) (H:St):St :=
 match H with
 | []=>A
 | a::r=>sApp A (a::r)
theorem appR_eq (A H:St):appR A H=appH A H:=by cases H<;>rfl
def forgetK {γ:Type}:List Oper→List D→(List D→γ)→γ
 | [],t,k=>k t
 | o::r,t,k=>putK o.dst .any t fun t=>forgetK r t k
theorem forgetK_eq {γ:Type}:∀ (l:List Oper) (t:List D) (k:List D→γ),forgetK l t k=k (forgetEnv l t)
 | [],t,k=>rfl
 | o::r,t,k=>by simp only [forgetK,putK_eq,forgetK_eq r,forgetEnv]
def headR (P:Program) (h:Hints):List Oper→Option St
 | []=>some []
 | o::os=>match drK (bareX P h) o.op with
  | .wait=>(zeroR P o.op).bind fun cs=>(headR P h os).bind fun T=>some (.cells cs::T)
  | _=>headR P h os
def drawR (M:Mode) (P:Program) (h:Hints) (call:CallT) (ops:Array Oper) (pan:List Nat) (loose:List (Nat×Nat)) (t:List D) (df:List (D×List D)) (A:St) (K:Out→Option β):Option β :=
 match headR P h ops.toList with
 | some H=>traceR M P h call ops ops.toList (sLen A) t (appR A H) [] fun T t' A' r =>
  match r with
  | none=>gsR M (pairsR T.reverse loose) (K ⟨.normal,⟨t',df⟩,A'⟩)
  | some p=>match pan.contains (T.length - 1) with
   | true=>none
   | false=>forgetK ops.toList t fun t=>gsR M (pairsR T.reverse loose) (K ⟨.pan p,⟨t,df⟩,A'⟩)
 | none=>none
theorem guardP_bind {α:Type} (p:Prop) (x:Option α) (K:α→Option β):(guardP p x).bind K=guardP p (x.bind K):=by
 unfold guardP;split<;>rfl
theorem trace_pan (X:Cx) (ops:Array Oper):∀ (os:List Oper) (k:Nat) (e:List D) (A:St) (T:List TStep) (p:D),traceD X ops os k e A=some (T,some p) →
  0<T.length∧∃ o,os[T.length - 1]?=some o∧opK X.P o.op=.call
 | [],k,e,A,T,p,h=>by simp [traceD] at h
 | o::os,k,e,A,T,p,h=>by
  have one:∀ {x:Option (List TStep×Option D)} {s:TStep},(∀ r,x=some r→r.2=some p→0<r.1.length∧∃ o,os[r.1.length - 1]?=some o∧opK X.P o.op=.call) →
    x.map (fun r=>((s::r.1:List TStep),r.2))=some (T,some p)→0<T.length∧∃ o',(o::os)[T.length - 1]?=some o'∧opK X.P o'.op=.call:=by
   intro x s hx hm
   cases x with
   | none=>cases hm
   | some r =>
    simp only [Option.map_some,Option.some.injEq,Prod.mk.injEq] at hm
    obtain ⟨h1,h2⟩:=hm
    obtain ⟨h3,o',h4,h5⟩:=hx r rfl h2
    subst h1
    refine ⟨by simp,o', ?_,h5⟩
    simp only [List.length_cons,Nat.add_sub_cancel]
    obtain ⟨n,hn⟩:∃ n,r.1.length=n+1:=⟨r.1.length - 1,by omega⟩
    rw [hn] at h4 ⊢
    simpa using h4
  have ih:∀ {k e A} (r:List TStep×Option D),traceD X ops os k e A=some r→r.2=some p→0<r.1.length∧∃ o,os[r.1.length - 1]?=some o∧opK X.P o.op=.call:=by
   intro k e A r hr h2
   obtain ⟨r1,r2⟩:=r
   simp only at h2;subst h2
   exact trace_pan X ops os k e A r1 p hr
  simp only [traceD,Option.bind_eq_some_iff] at h
  obtain ⟨w,hw,h⟩:=h
  cases hk:drK X o.op with
  | val =>
   simp only [hk,Option.bind_eq_some_iff] at h
   obtain ⟨d,h1,h2⟩:=h
   exact one (fun r hr=>ih r hr) h2
  | load =>
   simp only [hk,Option.bind_eq_some_iff] at h
   obtain ⟨d,h1,h2⟩:=h
   exact one (fun r hr=>ih r hr) h2
  | wait =>
   simp only [hk,Option.bind_eq_some_iff] at h
   obtain ⟨d,h1,h2⟩:=h
   exact one (fun r hr=>ih r hr) h2
  | eff =>
   simp only [hk] at h
   cases ho:opK X.P o.op with
   | call =>
    simp only [ho,Option.bind_eq_some_iff] at h
    obtain ⟨x,h1,h2⟩:=h
    cases hx:x.1 with
    | ret d=>rw [hx] at h2;exact one (fun r hr=>ih r hr) h2
    | pan q =>
     rw [hx] at h2
     simp only [Res.elim,Option.some.injEq,Prod.mk.injEq] at h2
     obtain ⟨h3,h4⟩:=h2
     subst h3
     exact ⟨by simp,o,by simp,ho⟩
   | _ =>
    simp only [ho,Option.bind_eq_some_iff] at h
    obtain ⟨x,h1,h2⟩:=h
    exact one (fun r hr=>ih r hr) h2
  | bad=>simp only [hk] at h;cases h
theorem headR_eq (X:Cx):∀ l:List Oper,headR X.P X.h l=headD X l
 | []=>rfl
 | o::os=>by
  have e:∀ (x:Option St) (s:Slot),(x.bind fun T=>some (s::T))=x.map fun T=>s::T:=fun x s=>by cases x<;>rfl
  simp only [headD,headR,headR_eq X os,zeroR_eq,e]
  rfl
theorem drawR_eq (X:Cx) (ops:Array Oper) {pan:List Nat} {loose:List (Nat×Nat)} (ok:okDraw X.P X.h ops pan loose=true) (t:List D) (df:List (D×List D)) (A:St) (K:Out→Option β) :
  drawR mL X.P X.h X.call ops pan loose t df A K=(drawD X ops ⟨t,df⟩ A).bind K:=by
 unfold okDraw okDrawC at ok
 rw [← anc_eq] at ok
 simp only [Bool.and_eq_true,beq_iff_eq] at ok
 obtain ⟨⟨h1,h2⟩,h3⟩:=ok
 unfold drawR drawD
 rw [headR_eq]
 cases headD X ops.toList with
 | none=>rfl
 | some H =>
  simp only [Option.bind_some,appR_eq,forgetK_eq]
  rw [traceR_eq,Option.bind_assoc]
  show (traceD X ops ops.toList A.length t (appH A H)).bind _=(traceD X ops ops.toList A.length t (appH A H)).bind _
  have hl:loosePairs X ops (ancAll ops)=loose:=h2
  cases ht:traceD X ops ops.toList A.length t (appH A H) with
  | none=>rfl
  | some r =>
   obtain ⟨T,q⟩:=r
   simp only [Option.bind_some,List.append_nil,List.length_reverse,List.reverse_reverse,gsR_eq,pairsR_iff,hl]
   cases q with
   | none =>
    rw [Option.map_none,drawOk_none]
    rw [show drawOkC X ops (inL (ancAll ops))=true from h1,cond_true,guardP_bind]
    rfl
   | some p =>
    rw [Option.map_some,drawOk_some]
    rw [show drawOkC X ops (inL (ancAll ops))=true from h1,Bool.true_and]
    obtain ⟨hp,o,ho,hc⟩:=trace_pan X ops _ _ _ _ _ _ ht
    have:=List.all_eq_true.1 h3 (o,T.length - 1) (by
     rw [List.mem_iff_getElem?]
     exact ⟨T.length - 1,by rw [List.getElem?_zipIdx,ho];simp⟩)
    simp only [show opK (bareX X.P X.h).P o.op=OpK.call from hc,beq_iff_eq] at this
    rw [this]
    cases pan.contains (T.length - 1) with
    | true=>rfl
    | false=>rw [Bool.not_false,cond_true,guardP_bind];rfl
end Go.Vm

/- Code,as it is read off: loops by their places. -/
namespace Go.Vm
open Go.RowKit

variable {β:Type}
theorem expand_id {n:Nat} {e:Env} (h:e.t.length=n):expand n e=e:=by
 unfold expand
 cases e with
 | mk t df =>
  simp only [Env.mk.injEq,and_true]
  simp only at h
  apply List.ext_getElem (by simp [h])
  intro i h1 h2
  simp [List.getD_eq_getElem?_getD,h2]
theorem expand_len (n:Nat) (e:Env):(expand n e).t.length=n:=by simp [expand]
theorem putD_len (o:Option Tmp) (d:D) (e:List D):(putD o d e).length=e.length:=by cases o<;>simp [putD]
theorem opsD_len (X:Cx) (ops:Array Oper):∀ (os:List Oper) (e:Env) (A:St) (o:Out),opsD X ops os e A=some o→o.env.t.length=e.t.length
 | [],e,A,o,h=>by simp only [opsD,Option.some.injEq] at h;subst h;rfl
 | a::os,e,A,o,h=>by
  simp only [opsD,Option.bind_eq_some_iff] at h
  obtain ⟨w,hw,h⟩:=h
  cases hk:opK X.P a.op with
  | pure =>
   simp only [hk,Option.bind_eq_some_iff] at h
   obtain ⟨d,h1,h2⟩:=h
   exact (opsD_len X ops os _ _ _ h2).trans (putD_len _ _ _)
  | world =>
   simp only [hk,Option.bind_eq_some_iff] at h
   obtain ⟨d,h1,h2⟩:=h
   exact (opsD_len X ops os _ _ _ h2).trans (putD_len _ _ _)
  | call =>
   simp only [hk,Option.bind_eq_some_iff] at h
   obtain ⟨r,h1,h2⟩:=h
   cases hr:r.1 with
   | ret d=>rw [hr] at h2;exact (opsD_len X ops os _ _ _ h2).trans (putD_len _ _ _)
   | pan p=>rw [hr] at h2;simp only [Res.elim,Option.some.injEq] at h2;subst h2;rfl
  | defer =>
   simp only [hk] at h
   cases w with
   | false=>cases h
   | true =>
    simp only [cond_true,Option.bind_eq_some_iff] at h
    obtain ⟨d,h1,h2⟩:=h
    exact (opsD_len X ops os _ _ _ h2).trans (putD_len _ _ _)
  | bad=>simp only [hk] at h;cases h
theorem foldEnv_len:∀ (l:List (Oper×TStep)) (e:List D),(foldEnv l e).length=e.length
 | [],e=>rfl
 | (o,s)::r,e=>by simp only [foldEnv,foldEnv_len r,putD_len]
theorem forgetEnv_len:∀ (l:List Oper) (e:List D),(forgetEnv l e).length=e.length
 | [],e=>rfl
 | o::r,e=>by simp only [forgetEnv,forgetEnv_len r,putD_len]
theorem drawD_len (X:Cx) (ops:Array Oper) (e:Env) (A:St) (o:Out) (h:drawD X ops e A=some o):o.env.t.length=e.t.length:=by
 unfold drawD at h
 simp only [Option.bind_eq_some_iff] at h
 obtain ⟨H,h1,r,h2,h3⟩:=h
 cases hd:drawOk X ops (ancAll ops) (r.2.map fun _=>r.1.length - 1) with
 | false=>rw [hd] at h3;cases h3
 | true =>
  rw [hd,cond_true,guardP_eq] at h3
  have h4:=Option.some.inj h3.2
  subst h4
  cases r.2 with
  | none=>exact foldEnv_len _ _
  | some p=>exact forgetEnv_len _ _
theorem mask_len (n:Nat) (live:Option (List Nat)) (e:Env) (h:e.t.length=n):(mask n live e).t.length=n:=by
 unfold mask;cases live<;>simp [h]
noncomputable def stp (X:Cx) (c:Code):Env→St→Option Out:=stepD X.n (X.h.live (loopId c)) (X.h.loopKeep (loopId c)) (codeD X c)
theorem codeD_len (X:Cx) (hX:X.it=iterL):∀ (c:Code) (e:Env) (A:St) (o:Out),codeD X c e A=some o→e.t.length=X.n→o.env.t.length=X.n:=by
 intro c
 induction c with
 | skip=>intro e A o h he;simp only [codeD,Option.some.injEq] at h;subst h;exact he
 | label l=>intro e A o h he;simp only [codeD,Option.some.injEq] at h;subst h;exact he
 | exit id=>intro e A o h he;simp only [codeD,Option.some.injEq] at h;subst h;exact he
 | ret=>intro e A o h he;simp only [codeD,Option.some.injEq] at h;subst h;exact he
 | region id ops draw =>
  intro e A o h he
  simp only [codeD] at h
  cases draw
  ·exact (opsD_len X ops _ _ _ _ h).trans he
  ·exact (drawD_len X ops _ _ _ h).trans he
 | seq a b iha ihb =>
  intro e A o h he
  simp only [codeD,Option.bind_eq_some_iff] at h
  obtain ⟨o1,h1,h2⟩:=h
  have hl:=iha e A o1 h1 he
  unfold Out.seq at h2
  cases hx:o1.ex with
  | normal=>rw [hx] at h2;exact ihb _ _ _ h2 (expand_len _ _)
  | exit i=>rw [hx] at h2;simp only [Option.some.injEq] at h2;subst h2;exact hl
  | ret=>rw [hx] at h2;simp only [Option.some.injEq] at h2;subst h2;exact hl
  | pan d=>rw [hx] at h2;simp only [Option.some.injEq] at h2;subst h2;exact hl
 | cond c a b iha ihb =>
  intro e A o h he
  simp only [codeD,Option.bind_eq_some_iff] at h
  obtain ⟨t,h1,h2⟩:=h
  cases hm:(cond t (codeD X a e A) (codeD X b e A)) with
  | none=>rw [hm] at h2;cases h2
  | some o1 =>
   rw [hm,Option.map_some,Option.some.injEq] at h2
   have hl:o1.env.t.length=X.n:=by cases t<;>first|exact iha e A o1 hm he|exact ihb e A o1 hm he
   subst h2
   unfold Out.atEnd
   split
   ·exact hl
   ·cases hx:o1.ex<;>simp only []<;>first|exact hl|exact mask_len _ _ _ hl
 | block id c ih =>
  intro e A o h he
  simp only [codeD] at h
  cases hm:codeD X c e A with
  | none=>rw [hm] at h;cases h
  | some o1 =>
   rw [hm,Option.map_some,Option.some.injEq] at h
   have hl:=ih e A o1 hm he
   subst h
   unfold Out.block
   cases o1.ex<;>exact hl
 | loop c ih =>
  intro e A o h he
  simp only [codeD,hX] at h
  rw [(iterL_lim _ _ _).lim] at h
  obtain ⟨j,h⟩:=h
  have key:∀ (j:Nat) (e:Env) (A:St),iterN j (stepD X.n (X.h.live (loopId c)) (X.h.loopKeep (loopId c)) (codeD X c)) e A=some o→o.env.t.length=X.n:=by
   intro j
   induction j with
   | zero=>intro e A h;cases h
   | succ j ihj =>
    intro e A h
    simp only [iterN,Option.bind_eq_some_iff] at h
    obtain ⟨o1,h1,h2⟩:=h
    unfold stepD at h1
    simp only [Option.bind_eq_some_iff] at h1
    obtain ⟨o2,h3,h4⟩:=h1
    have hl:=ih _ _ _ h3 (expand_len _ _)
    cases hx:o1.ex with
    | normal=>rw [hx] at h2;exact ihj _ _ h2
    | _ =>
     rw [hx] at h2
     simp only [Option.some.injEq] at h2
     subst h2
     unfold Out.norm at h4
     cases hy:o2.ex with
     | normal =>
      rw [hy] at h4
      exfalso
      simp only [] at h4
      cases hkp:X.h.loopKeep (loopId c) with
      | false=>rw [hkp,cond_false,guardP_eq,Option.some.injEq] at h4;obtain ⟨_,h5⟩:=h4;subst h5;cases hx
      | true=>rw [hkp,cond_true,Option.some.injEq] at h4;subst h4;cases hx
     | _ =>
      rw [hy] at h4
      simp only [Option.some.injEq] at h4
      subst h4
      exact hl
  exact key j _ _ h
 | rangeFunc f ps x y =>
  intro e A o h he
  simp only [codeD] at h
  revert h
  cases plainC x && plainC y
  ·intro h;cases h
  ·simp only [cond_true,Option.bind_eq_some_iff]
   rintro ⟨r,h1,h2⟩
   cases hr:r.1 with
   | ret d =>
    rw [hr] at h2
    simp only [Res.elim,endRec] at h2
    split at h2
    ·split at h2<;>first|(simp only [Option.some.injEq] at h2;subst h2;exact he)|cases h2
    ·cases h2
   | pan d=>rw [hr] at h2;simp only [Res.elim,Option.some.injEq] at h2;subst h2;exact he
 | scope c=>intro e A o h he;simp only [codeD] at h;cases h
 | goto l=>intro e A o h he;simp only [codeD] at h;cases h
 | refuse s=>intro e A o h he;simp only [codeD] at h;cases h
end Go.Vm

/- Code,as it is read off: its equation with the run;loops' names. -/
namespace Go.Vm
open Go.RowKit

variable {β:Type}
def dn (i:Nat):Option (List Nat×List St)→Option (List Nat×List St)
 | some (q,ss)=>some (i::q,ss)
 | none=>none
def expG (n:Nat) (e:Env):Env:=⟨(List.range n).map e.g,e.df⟩
section
variable {γ α:Type}
def genK:Nat→(Nat→α)→List α→(List α→γ)→γ
 | 0,_,acc,k=>k acc
 | n+1,f,acc,k=>genK n f (f n::acc) k
theorem genK_eq (f:Nat→α) (k:List α→γ):∀ (n:Nat) (acc:List α),genK n f acc k=k ((List.range n).map f++acc)
 | 0,acc=>rfl
 | n+1,acc=>by rw [genK,genK_eq f k n,List.range_succ];simp
def expT (n:Nat) (t:List D) (k:List D→γ):γ :=
 match Nat.beq t.length n with
 | true=>k t
 | false=>forceK ((List.range n).map fun i=>t.getD i .any) k
theorem expT_eq (n:Nat) (t:List D) (df:List (D×List D)) (k:List D→γ):expT n t k=k (expand n ⟨t,df⟩).t:=by
 unfold expT
 cases h:Nat.beq t.length n with
 | true=>rw [expand_id (e:=⟨t,df⟩) (Nat.eq_of_beq_eq_true h)]
 | false=>exact forceK_eq _ _
def zipK:List Bool→List D→(List D→γ)→γ
 | [],_,k=>k []
 | _,[],k=>k []
 | b::bs,d::r,k=>match b with
  | true=>zipK bs r fun r=>k (d::r)
  | false=>zipK bs r fun r=>k (.any::r)
theorem zipK_eq:∀ (bs:List Bool) (t:List D) (k:List D→γ),zipK bs t k=k (List.zipWith (fun b d=>cond b d .any) bs t)
 | [],t,k=>by simp [zipK]
 | b::bs,[],k=>by simp [zipK]
 | b::bs,d::r,k=>by cases b<;>simp only [zipK,zipK_eq bs r,List.zipWith_cons_cons,cond_true,cond_false]
def maskK (n:Nat) (live:Option (List Nat)) (t:List D) (k:List D→γ):γ :=
 match live with
 | none=>k t
 | some l=>genK n (fun i=>l.contains i) [] fun bs=>zipK bs t k
theorem maskK_eq {n:Nat} {live:Option (List Nat)} {t:List D} (h:t.length=n) (df:List (D×List D)) (k:List D→γ):maskK n live t k=k (mask n live ⟨t,df⟩).t:=by
 unfold maskK mask
 cases live with
 | none=>rfl
 | some l =>
  simp only [genK_eq,zipK_eq,List.append_nil]
  congr 1
  apply List.ext_getElem (by simp [h])
  intro i h1 h2
  simp at h1
  have h3:i<t.length:=by omega
  simp [List.getD_eq_getElem?_getD,List.getElem?_eq_getElem h3]
def refK (c:Operand) (b:Bool) (t:List D) (k:List D→γ):γ :=
 match c with
 | .tmp i=>setK t i (.bool b) k
 | _=>k t
theorem refK_eq (c:Operand) (b:Bool) (t:List D) (df:List (D×List D)) (k:List D→γ):refK c b t k=k (refine c b ⟨t,df⟩).t:=by
 cases c with
 | tmp i=>exact setK_eq _ _ _ _
 | _=>rfl
end
def Out.seqE (o:Out) (f:List D→List (D×List D)→St→Option β) (K:Out→Option β):Option β :=
 match o with
 | ⟨ex,⟨t,df⟩,A⟩=>match ex with
  | .normal=>f t df A
  | ex=>K ⟨ex,⟨t,df⟩,A⟩
theorem seqE_eq (o:Out) (f:List D→List (D×List D)→St→Option β) (K:Out→Option β):o.seqE f K=o.seqK (fun e A=>f e.t e.df A) K:=by
 cases o with
 | mk x e A=>cases x<;>rfl
def atEndK (n:Nat) (live:Option (List Nat)) (o:Out) (k:Out→Option β):Option β :=
 match live with
 | none=>k o
 | some l=>match o with
  | ⟨ex,⟨t,df⟩,A⟩=>match ex with
   | .normal=>maskK n (some l) t fun t=>k ⟨.normal,⟨t,df⟩,A⟩
   | ex=>k ⟨ex,⟨t,df⟩,A⟩
theorem atEndK_eq {n:Nat} {live:Option (List Nat)} {o:Out} (h:o.env.t.length=n) (k:Out→Option β):atEndK n live o k=k (o.atEnd n live):=by
 unfold atEndK Out.atEnd
 cases live with
 | none=>rfl
 | some l =>
  obtain ⟨ex,⟨t,df⟩,A⟩:=o
  cases ex with
  | normal=>simp only [maskK_eq (live:=some l) h df];rfl
  | _=>rfl
theorem atEnd_len {n:Nat} {live:Option (List Nat)} {o:Out} (h:o.env.t.length=n):(o.atEnd n live).env.t.length=n:=by
 unfold Out.atEnd
 cases live with
 | none=>exact h
 | some l=>cases o.ex<;>first|exact h|exact mask_len _ _ _ h
def sTake (n:Nat) (A:St):St:=A.take n
def endX (k:Nat) (A:St):Option (Ex×St) :=
 match A[k]? with
 | some (.loop _ _ _ st)=>match st with
  | .ready=>some (.normal,A.set k .dead)
  | .ret=>some (.ret,A.set k .dead)
  | .exit id=>some (.exit id,A.set k .dead)
  | .busy=>none
 | _=>none
theorem endX_eq (e:Env) (k:Nat) (A:St):endRec e k A=(endX k A).map fun z=>⟨z.1,e,z.2⟩:=by
 unfold endRec endX
 cases A[k]? with
 | none=>rfl
 | some s =>
  cases s with
  | loop f t rf st=>cases st<;>rfl
  | _=>rfl
def stepC:Nat→Code→Option Code
 | 0,.seq a _=>some a
 | 1,.seq _ b=>some b
 | 0,.cond _ a _=>some a
 | 1,.cond _ _ b=>some b
 | 0,.block _ c=>some c
 | 0,.loop c=>some c
 | _,_=>none
def codeAt (c0:Code):List Nat→Option Code
 | []=>some c0
 | i::q=>(codeAt c0 q).bind (stepC i)
def cAt (P:Program) (f:FuncId) (q:List Nat):Code:=((P.funcs[f]?).bind fun fn=>fn.body.bind fun c=>codeAt c q).getD .skip
def cAtI {P:Program} (f:FuncId) (q:List Nat):Code:=cAt P f q
def seqI {P:Program} (call:FuncId→List D→St→ORes) (f:D) (k:Nat) (A:St):ORes:=seqCall P call f k A
def rfR (P:Program) (f:FuncId) (c:Code):Option (List Nat×List St)→Code
 | some (q,_)=>@cAtI P f q
 | none=>c
def okC (P:Program) (h:Hints) (J:KH):Code→Bool
 | .region id ops draw=>match draw with
  | true=>okDraw P h ops (J.pan id) (J.loose id)
  | false=>true
 | .seq a b|.cond _ a b=>okC P h J a && okC P h J b
 | .block _ c|.loop c=>okC P h J c
 | .rangeFunc _ _ x y=>okC P h J x && okC P h J y
 | _=>true
def exS {α:Type} {kz:Ex→Option α} (x:Ex) (kn kr:Option α) (ids:List (Nat×Option α)):Option α :=
 match x with
 | .normal=>kn
 | .ret=>kr
 | .exit i=>match ids.lookup i with
  | some k=>k
  | none=>kz (.exit i)
 | x=>kz x
theorem exS_eq {α:Type} (kz:Ex→Option α) (x:Ex) (l:List Nat):@exS α kz x (kz .normal) (kz .ret) (l.map fun i=>(i,kz (.exit i)))=kz x:=by
 cases x<;>try rfl
 rename_i i
 unfold exS
 simp only []
 induction l with
 | nil=>rfl
 | cons j l ih =>
  rw [List.map_cons,List.lookup_cons]
  cases h:i == j with
  | true=>have:=beq_iff_eq.1 h;subst this;rfl
  | false=>exact ih
def exitsOf:Code→List Nat
 | .exit i=>[i]
 | .seq a b|.cond _ a b=>exitsOf a++exitsOf b
 | .block _ c|.loop c=>exitsOf c
 | _=>[]
def plainR:Code→Bool
 | .region _ ops _=>ops.toList.all plainOp
 | .seq a b|.cond _ a b=>plainR a && plainR b
 | .block _ c|.loop c|.scope c=>plainR c
 | .rangeFunc ..=>false
 | _=>true
theorem plainR_eq:∀ c:Code,plainR c=plainC c:=by
 intro c
 induction c with
 | region id ops draw=>exact Array.all_toList
 | seq a b ha hb=>simp only [plainR,plainC,ha,hb]
 | cond c a b ha hb=>simp only [plainR,plainC,ha,hb]
 | block id c h=>exact h
 | loop c h=>exact h
 | scope c h=>exact h
 | _=>rfl
noncomputable def codeR (M:Mode) (X:Cx) (J:KH) (lp:List Nat→List St→Env→St→Option β):Option (List Nat×List St)→Code→List D→List (D×List D)→St→(Out→Option β)→Option β
 | _,.skip,t,df,A,K=>K ⟨.normal,⟨t,df⟩,A⟩
 | _,.label _,t,df,A,K=>K ⟨.normal,⟨t,df⟩,A⟩
 | _,.region id ops draw,t,df,A,K=>match draw with
  | true=>drawR M X.P X.h X.call ops (J.pan id) (J.loose id) t df A K
  | false=>opsR X.P X.h X.call ops ops.toList t df A K
 | p,.seq a b,t,df,A,K=>codeR M X J lp (dn 0 p) a t df A fun o=>o.seqE (fun t df A=>expT X.n t fun t=>codeR M X J lp (dn 1 p) b t df A K) K
 | p,.cond c a b,t,df,A,K=>evK t c fun d=>bn (D.bool? d) fun s =>
  match J.J c a b with
  | true=>ifb s (refK c true t fun t=>codeR M X J lp (dn 0 p) a t df A fun o=>atEndK X.n (X.h.liveJ (condId a b)) o K)
    (refK c false t fun t=>codeR M X J lp (dn 1 p) b t df A fun o=>atEndK X.n (X.h.liveJ (condId a b)) o K)
  | false=>jn (fun e A=>genK X.n e.g [] fun t=>K ⟨.normal,⟨t,e.df⟩,A⟩) fun k =>
    ifb s (refK c true t fun t=>codeR M X J lp (dn 0 p) a t df A fun o=>atEndK X.n (X.h.liveJ (condId a b)) o fun o=>o.seqE (fun t df A=>k ⟨t,df⟩ A) K)
     (refK c false t fun t=>codeR M X J lp (dn 1 p) b t df A fun o=>atEndK X.n (X.h.liveJ (condId a b)) o fun o=>o.seqE (fun t df A=>k ⟨t,df⟩ A) K)
 | p,.block id c,t,df,A,K=>codeR M X J lp (dn 0 p) c t df A fun o=>K (o.block id)
 | p,.loop c,t,df,A,K=>match p with
  | some (q,ss)=>maskK X.n (X.h.live (loopId c)) t fun t=>lp q ss ⟨t,df⟩ A
  | none=>fbM M ((codeD X (.loop c) ⟨t,df⟩ A).bind K)
 | _,.exit id,t,df,A,K=>K ⟨.exit id,⟨t,df⟩,A⟩
 | _,.ret,t,df,A,K=>K ⟨.ret,⟨t,df⟩,A⟩
 | p,.rangeFunc g ps x y,t,df,A,K=>match plainR x && plainR y with
  | true=>evK t g fun d=>maskK X.n (X.h.live (loopId y)) t fun t' =>
   bn (@seqI X.P X.call d (sLen A+1) (sApp A [.dfb,.loop X.f t' (rfR X.P X.f (.rangeFunc g ps x y) p) .ready])) fun r =>
    r.1.elim (fun _=>bn (endX (sLen A+1) r.2) fun z=>@exS _ (fun x=>K ⟨x,⟨t,(.yld true (sLen A),[])::df⟩,z.2⟩) z.1 (K ⟨.normal,⟨t,(.yld true (sLen A),[])::df⟩,z.2⟩) (K ⟨.ret,⟨t,(.yld true (sLen A),[])::df⟩,z.2⟩)
      ((exitsOf y).map fun i=>(i,K ⟨.exit i,⟨t,(.yld true (sLen A),[])::df⟩,z.2⟩)))
     (fun p=>K ⟨.pan p,⟨t,(.yld true (sLen A),[])::df⟩,r.2⟩)
  | false=>none
 | _,_,_,_,_,_=>none
noncomputable def loopK (X:Cx) (c:Code) (K:Out→Option β) (A:St) (o:Out):Option β :=
 o.seqK (fun e' A'=>cond (X.h.loopKeep (loopId c)) ((iterL (stp X c) (mask X.n (X.h.live (loopId c)) e') A').bind K)
  (guardP (Kept A A') ((iterL (stp X c) ((mask X.n (X.h.live (loopId c)) e').shut A.length) (A'.take A.length)).bind K))) K
inductive At (X:Cx) (root:Code) (K0:St→Out→Option β):List Nat→List St→Code→(Out→Option β)→Prop
 | root (A0:St):At X root K0 [] [A0] root (K0 A0)
 | seqL {q ss a b K K'}:At X root K0 q ss (.seq a b) K→K'=(fun o:Out=>o.seqK (fun e A=>(codeD X b (expand X.n e) A).bind K) K)→At X root K0 (0::q) ss a K'
 | seqR {q ss a b K}:At X root K0 q ss (.seq a b) K→At X root K0 (1::q) ss b K
 | condL {q ss c a b K K'}:At X root K0 q ss (.cond c a b) K→K'=(fun o:Out=>K (o.atEnd X.n (X.h.liveJ (condId a b))))→At X root K0 (0::q) ss a K'
 | condR {q ss c a b K K'}:At X root K0 q ss (.cond c a b) K→K'=(fun o:Out=>K (o.atEnd X.n (X.h.liveJ (condId a b))))→At X root K0 (1::q) ss b K'
 | block {q ss id c K K'}:At X root K0 q ss (.block id c) K→K'=(fun o:Out=>K (o.block id))→At X root K0 (0::q) ss c K'
 | loop {q ss c K K' A}:At X root K0 q ss (.loop c) K→K'=loopK X c K A→At X root K0 (0::q) (A::ss) c K'
theorem At.code {X:Cx} {root:Code} {K0:St→Out→Option β} {q:List Nat} {ss:List St} {c:Code} {K:Out→Option β} (h:At X root K0 q ss c K):codeAt root q=some c:=by
 induction h with
 | root A0=>rfl
 | seqL h k ih=>simp only [codeAt,ih,Option.bind_some,stepC]
 | seqR h ih=>simp only [codeAt,ih,Option.bind_some,stepC]
 | condL h k ih=>simp only [codeAt,ih,Option.bind_some,stepC]
 | condR h k ih=>simp only [codeAt,ih,Option.bind_some,stepC]
 | block h k ih=>simp only [codeAt,ih,Option.bind_some,stepC]
 | loop h k ih=>simp only [codeAt,ih,Option.bind_some,stepC]
theorem At.unique {X:Cx} {root:Code} {K0:St→Out→Option β} {q:List Nat} {ss:List St} {c c':Code} {K K':Out→Option β} (h:At X root K0 q ss c K) (h':At X root K0 q ss c' K'):c=c'∧K=K':=by
 have hc:c=c':=by have:=h.code;rw [h'.code] at this;exact (Option.some.inj this).symm
 refine ⟨hc, ?_⟩
 subst hc
 induction h generalizing K' with
 | root A0=>cases h' with|root=>rfl
 | seqL h k ih =>
  subst k
  have q1:=h.code
  cases h' with
  | seqL h2 k2=>subst k2;have q2:=h2.code;rw [q1] at q2;cases q2;rw [ih h2]
  | condL h2 k2=>have q2:=h2.code;rw [q1] at q2;cases q2
  | block h2 k2=>have q2:=h2.code;rw [q1] at q2;cases q2
  | loop h2 k2=>have q2:=h2.code;rw [q1] at q2;cases q2
 | seqR h ih =>
  have q1:=h.code
  cases h' with
  | seqR h2=>have q2:=h2.code;rw [q1] at q2;cases q2;exact ih h2
  | condR h2 k2=>have q2:=h2.code;rw [q1] at q2;cases q2
 | condL h k ih =>
  subst k
  have q1:=h.code
  cases h' with
  | condL h2 k2=>subst k2;have q2:=h2.code;rw [q1] at q2;cases q2;rw [ih h2]
  | seqL h2 k2=>have q2:=h2.code;rw [q1] at q2;cases q2
  | block h2 k2=>have q2:=h2.code;rw [q1] at q2;cases q2
  | loop h2 k2=>have q2:=h2.code;rw [q1] at q2;cases q2
 | condR h k ih =>
  subst k
  have q1:=h.code
  cases h' with
  | condR h2 k2=>subst k2;have q2:=h2.code;rw [q1] at q2;cases q2;rw [ih h2]
  | seqR h2=>have q2:=h2.code;rw [q1] at q2;cases q2
 | block h k ih =>
  subst k
  have q1:=h.code
  cases h' with
  | block h2 k2=>subst k2;have q2:=h2.code;rw [q1] at q2;cases q2;rw [ih h2]
  | seqL h2 k2=>have q2:=h2.code;rw [q1] at q2;cases q2
  | condL h2 k2=>have q2:=h2.code;rw [q1] at q2;cases q2
  | loop h2 k2=>have q2:=h2.code;rw [q1] at q2;cases q2
 | loop h k ih =>
  subst k
  have q1:=h.code
  cases h' with
  | loop h2 k2=>subst k2;have q2:=h2.code;rw [q1] at q2;cases q2;rw [ih h2]
  | seqL h2 k2=>have q2:=h2.code;rw [q1] at q2;cases q2
  | condL h2 k2=>have q2:=h2.code;rw [q1] at q2;cases q2
  | block h2 k2=>have q2:=h2.code;rw [q1] at q2;cases q2
open Classical in
noncomputable def lpS (X:Cx) (root:Code) (K0:St→Out→Option β) (q:List Nat) (ss:List St) (e:Env) (A:St):Option β :=
 if h:∃ r:Code×(Out→Option β),At X root K0 q ss (.loop r.1) r.2 then (iterL (stp X (Classical.choose h).1) e A).bind (Classical.choose h).2 else none
theorem lpS_eq {X:Cx} {root:Code} {K0:St→Out→Option β} {q:List Nat} {ss:List St} {c:Code} {K:Out→Option β} (h:At X root K0 q ss (.loop c) K) (e:Env) (A:St) :
  lpS X root K0 q ss e A=(iterL (stp X c) e A).bind K:=by
 have hx:∃ r:Code×(Out→Option β),At X root K0 q ss (.loop r.1) r.2:=⟨(c,K),h⟩
 unfold lpS
 rw [dif_pos hx]
 obtain ⟨h1,h2⟩:=(Classical.choose_spec hx).unique h
 rw [h2]
 cases h1
 rfl
theorem bind_ext {α γ:Type} {x:Option α} {f g:α→Option γ} (h:∀ a,x=some a→f a=g a):x.bind f=x.bind g:=by
 cases x with
 | none=>rfl
 | some a=>exact h a rfl
theorem seqK_congr {o:Out} {f f':Env→St→Option β} {K K':Out→Option β} (h1:o.ex=.normal→f o.env o.st=f' o.env o.st) (h2:K o=K' o):o.seqK f K=o.seqK f' K':=by
 unfold Out.seqK
 cases hx:o.ex<;>first|exact h1 hx|exact h2
theorem seq_bind (o:Out) (n:Nat) (f:Env→St→Option Out) (K:Out→Option β):(o.seq n f).bind K=o.seqK (fun e A=>(f (expand n e) A).bind K) K:=by
 unfold Out.seq Out.seqK
 cases o with
 | mk x e A=>cases x<;>rfl
theorem codeR_eq (X:Cx) (hX:X.it=iterL) (J:KH) (root:Code) (K0:St→Out→Option β) (hr:∀ q c,codeAt root q=some c→cAt X.P X.f q=c) :
  ∀ (c:Code) (p:Option (List Nat×List St)) (t:List D) (df:List (D×List D)) (A:St) (K KR:Out→Option β),okC X.P X.h J c=true→t.length=X.n →
   (∀ o:Out,o.env.t.length=X.n→KR o=K o)→(∀ q ss,p=some (q,ss)→At X root K0 q ss c K) →
   codeR mL X J (lpS X root K0) p c t df A KR=(codeD X c ⟨t,df⟩ A).bind K:=by
 intro c
 induction c with
 | skip=>intro p t df A K KR ok he hK hp;exact hK _ he
 | label l=>intro p t df A K KR ok he hK hp;exact hK _ he
 | exit id=>intro p t df A K KR ok he hK hp;exact hK _ he
 | ret=>intro p t df A K KR ok he hK hp;exact hK _ he
 | region id ops draw =>
  intro p t df A K KR ok he hK hp
  have hb:(codeD X (.region id ops draw) ⟨t,df⟩ A).bind KR=(codeD X (.region id ops draw) ⟨t,df⟩ A).bind K:=bind_ext fun o ho=>hK o (codeD_len X hX _ _ _ _ ho he)
  rw [← hb]
  cases draw
  ·simp only [codeR,codeD];exact opsR_eq X ops KR _ _ _ _
  ·simp only [codeR,codeD];exact drawR_eq X ops ok t df A KR
 | seq a b iha ihb =>
  intro p t df A K KR ok he hK hp
  simp only [okC,Bool.and_eq_true] at ok
  simp only [codeR,codeD]
  rw [iha (dn 0 p) t df A (fun o:Out=>o.seqK (fun e A=>(codeD X b (expand X.n e) A).bind K) K) _ ok.1 he (fun o ho=>?_) (fun q ss hq=>?_),Option.bind_assoc]
  ·congr 1;funext o;exact (seq_bind o X.n _ K).symm
  ·rw [seqE_eq]
   refine seqK_congr (fun _=>?_) (hK o ho)
   rw [expT_eq X.n o.env.t o.env.df]
   refine (ihb (dn 1 p) _ o.env.df o.st K KR ok.2 (expand_len _ _) hK (fun q ss hq=>?_)).trans rfl
   cases p with
   | none=>cases hq
   | some r=>obtain ⟨q',ss'⟩:=r;simp only [dn,Option.some.injEq,Prod.mk.injEq] at hq;obtain ⟨rfl,rfl⟩:=hq;exact (hp _ _ rfl).seqR
  ·cases p with
   | none=>cases hq
   | some r=>obtain ⟨q',ss'⟩:=r;simp only [dn,Option.some.injEq,Prod.mk.injEq] at hq;obtain ⟨rfl,rfl⟩:=hq;exact (hp _ _ rfl).seqL rfl
 | cond c a b iha ihb =>
  intro p t df A K KR ok he hK hp
  simp only [okC,Bool.and_eq_true] at ok
  simp only [codeR,codeD,evK_eq,bn_eq]
  rw [Option.bind_assoc]
  refine bind_ext fun s hs=>?_
  have map_bind:∀ x:Option Out,(x.map (Out.atEnd X.n (X.h.liveJ (condId a b)))).bind K=x.bind fun o=>K (o.atEnd X.n (X.h.liveJ (condId a b))):=fun x=>bind_map' _ _ _
  have hl:∀ q ss,dn 0 p=some (q,ss)→At X root K0 q ss a (fun o:Out=>K (o.atEnd X.n (X.h.liveJ (condId a b)))):=fun q ss hq=>by
   cases p with
   | none=>cases hq
   | some r=>obtain ⟨q',ss'⟩:=r;simp only [dn,Option.some.injEq,Prod.mk.injEq] at hq;obtain ⟨rfl,rfl⟩:=hq;exact (hp _ _ rfl).condL rfl
  have hl':∀ q ss,dn 1 p=some (q,ss)→At X root K0 q ss b (fun o:Out=>K (o.atEnd X.n (X.h.liveJ (condId a b)))):=fun q ss hq=>by
   cases p with
   | none=>cases hq
   | some r=>obtain ⟨q',ss'⟩:=r;simp only [dn,Option.some.injEq,Prod.mk.injEq] at hq;obtain ⟨rfl,rfl⟩:=hq;exact (hp _ _ rfl).condR rfl
  have k1:∀ o:Out,o.env.t.length=X.n→atEndK X.n (X.h.liveJ (condId a b)) o KR=K (o.atEnd X.n (X.h.liveJ (condId a b))):=fun o ho=>by
   rw [atEndK_eq ho];exact hK _ (atEnd_len ho)
  have k2:∀ o:Out,o.env.t.length=X.n→(atEndK X.n (X.h.liveJ (condId a b)) o fun o=>o.seqE (fun t df A=>KR ⟨.normal,⟨(List.range X.n).map (Env.mk t df).g++[],df⟩,A⟩) KR)=K (o.atEnd X.n (X.h.liveJ (condId a b))):=fun o ho=>by
   rw [atEndK_eq ho,← hK _ (atEnd_len ho)]
   generalize hz:o.atEnd X.n (X.h.liveJ (condId a b))=z
   have hzl:z.env.t.length=X.n:=hz ▸ atEnd_len ho
   rw [seqE_eq]
   simp only [List.append_nil]
   unfold Out.seqK
   cases z with
   | mk x e A=>cases x<;>first|rfl|exact congrArg (fun e=>KR ⟨.normal,e,A⟩) (expand_id hzl)
  have re:(refine c s ⟨t,df⟩).t=t:=by rw [refine_eq c s ⟨t,df⟩ hs]
  rw [map_bind]
  simp only [refK_eq c _ t df,genK_eq]
  cases J.J c a b with
  | true =>
   simp only [ifb]
   cases s
   ·rw [cond_false,re];exact ihb (dn 1 p) t df A _ _ ok.2 he k1 hl'
   ·rw [cond_true,re];exact iha (dn 0 p) t df A _ _ ok.1 he k1 hl
  | false =>
   simp only [jn,ifb]
   cases s
   ·rw [cond_false,re];exact ihb (dn 1 p) t df A _ _ ok.2 he k2 hl'
   ·rw [cond_true,re];exact iha (dn 0 p) t df A _ _ ok.1 he k2 hl
 | block id c ih =>
  intro p t df A K KR ok he hK hp
  simp only [codeR,codeD]
  rw [ih (dn 0 p) t df A (fun o:Out=>K (o.block id)) _ ok he (fun o ho=>hK _ (by unfold Out.block;cases o.ex<;>exact ho)) (fun q ss hq=>?_),bind_map']
  cases p with
  | none=>cases hq
  | some r=>obtain ⟨q',ss'⟩:=r;simp only [dn,Option.some.injEq,Prod.mk.injEq] at hq;obtain ⟨rfl,rfl⟩:=hq;exact (hp _ _ rfl).block rfl
 | loop c ih =>
  intro p t df A K KR ok he hK hp
  cases p with
  | none =>
   simp only [codeR]
   exact bind_ext fun o ho=>hK o (codeD_len X hX _ _ _ _ ho he)
  | some r =>
   obtain ⟨q,ss⟩:=r
   simp only [codeR,codeD]
   rw [maskK_eq he df,lpS_eq (hp q ss rfl),hX]
   have:(⟨(mask X.n (X.h.live (loopId c)) ⟨t,df⟩).t,df⟩:Env)=mask X.n (X.h.live (loopId c)) ⟨t,df⟩:=by
    cases X.h.live (loopId c)<;>rfl
   rw [this]
   rfl
 | rangeFunc g ps x y =>
  intro p t df A K KR ok he hK hp
  simp only [codeR,codeD,bn_eq,evK_eq,maskK_eq he df,sLen,sApp,plainR_eq,seqI]
  have hrf:rfR X.P X.f (.rangeFunc g ps x y) p=.rangeFunc g ps x y:=by
   cases p with
   | none=>rfl
   | some r=>obtain ⟨q,ss⟩:=r;exact hr q _ (hp q ss rfl).code
  rw [hrf]
  cases plainC x && plainC y
  ·rfl
  ·simp only [cond_true]
   rw [Option.bind_assoc]
   congr 1
   funext r
   cases r.1 with
   | ret d =>
    simp only [Res.elim]
    rw [endX_eq,bind_map']
    congr 1;funext z
    exact (exS_eq (fun x=>KR ⟨x,⟨t,(.yld true A.length,[])::df⟩,z.2⟩) z.1 (exitsOf y)).trans (hK _ he)
   | pan d=>exact hK _ he
 | scope c=>intro p t df A K KR ok he hK hp;rfl
 | goto l=>intro p t df A K KR ok he hK hp;rfl
 | refuse s=>intro p t df A K KR ok he hK hp;rfl
end Go.Vm
