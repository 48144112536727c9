/- Regions and code: what the abstract run says holds of the model's run. -/
import Derived.Test.YtagmpieoalkneaaGreatDoorVmTok
import Derived.Tactics
import Derived.TacticsIn
import Derived.OrdersIn
import Derived.LoopNIn
import Derived.Recover
set_option linter.all false
namespace Go.Vm
open Go.RowKit

def EndOk (g:Gh) (w:World):Res→Ending→Prop
 | .ret d,.returned v=>Rep g w d v
 | .pan d,.panicked chain=>∃ t u,chain=[{ v:=.iface t u,recovered:=false }]∧Rep g w d (.iface t u)
 | _,_=>False
def Sound (P:Program) (f:FuncId) (ds:List D) (A:St) (r:Res×St):Prop :=
 ∀ (g:Gh) (w:World) (vs:List Value),Inv g A w→RepL g w ds vs →
  ((callFunc f vs.toArray).run P w=.ok (.enter f vs.toArray) w ∧
   Calls P f vs.toArray w fun e w'=>∃ g',Ext g w g' w'∧Inv g' r.2 w'∧EndOk g' w' r.1 e) ∨
  (∃ v w' g' d,(callFunc f vs.toArray).run P w=.ok (.value v) w'∧Ext g w g' w'∧Inv g' r.2 w'∧r.1=.ret d∧Rep g' w' d v)
def FR (ro:Option Nat):Fence:={ Fence.wide with round:=ro }
def RSound (P:Program) (k:Nat) (ds:List D) (A:St) (r:Res×St):Prop :=
 ∀ (g:Gh) (w:World) (vs:List Value) (l:Nat),Inv g A w→RepL g w ds vs→g.m k=.obj l →
  ∃ f tmps assign body,(Instr.yield l vs.toArray).run P w=.ok (.round l f tmps assign body) w ∧
   RoundIn (FR none) 0 P l f tmps assign body w fun e w'=>∃ g',Ext g w g' w'∧Inv g' r.2 w'∧EndOk g' w' r.1 e
def CallOk (P:Program) (call:FuncId→List D→St→ORes):Prop:=∀ f ds A r,call f ds A=some r→Sound P f ds A r ∧
 ∀ k as,f=rOff→ds=[.tup [.yld true k],.tup as]→RSound P k as A r

def RepDf1 (g:Gh) (w:World) (x:D×List D) (d:Deferred):Prop :=
 match x.1 with
 | .any=>True
 | .yld true k=>k<g.len∧∃ r,d.target=.collected r∧g.m k≠.wait∧∀ r',g.m k=.obj r'→r=r'
 | _=>∃ fn first cap vs,Rep g w x.1 (.func fn first cap)∧RepL g w x.2 vs∧d.target=.fn fn cap∧d.args=first++vs.toArray
theorem RepDf1.of {g:Gh} {w:World} {x:D×List D} {d:Deferred} (h:∃ fn first cap vs,Rep g w x.1 (.func fn first cap)∧RepL g w x.2 vs∧d.target=.fn fn cap∧d.args=first++vs.toArray):RepDf1 g w x d:=by
 unfold RepDf1
 split
 ·trivial
 ·rename_i k hk
  obtain ⟨fn,first,cap,vs,h1,_⟩:=h
  rw [hk] at h1
  simp [Rep] at h1
 ·exact h
theorem RepDf1.keep {g g':Gh} {w w':World} (K:Keeps g w g' w') {x:D×List D} {d:Deferred} (h:RepDf1 g w x d):RepDf1 g' w' (x.1.shut g'.len,D.shutL g'.len x.2) d:=by
 unfold RepDf1 at h
 split at h
 ·rename_i hx
  rw [hx]
  simp [D.shut,RepDf1]
 ·rename_i k hk
  rw [hk]
  obtain ⟨h0,r,h1,hw,ha⟩:=h
  simp only [D.shut]
  split
  ·rename_i hk'
   obtain ⟨hle,hne⟩:=(K.bind k h0 hk').ne hw
   refine ⟨hk',r,h1,hne,fun l' hm=>?_⟩
   rcases hle with hb|hb|⟨r1,n1,r2,n2,h1,h2,h3⟩
   ·exact ha l' (hb ▸ hm)
   ·rw [hb.2] at hm;cases hm
   ·rw [h2] at hm;cases hm
  ·trivial
 ·obtain ⟨fn,first,cap,vs,h1,h2,h3,h4⟩:=h
  exact RepDf1.of ⟨fn,first,cap,vs,Rep.keep K _ _ h1,RepL.keep K _ _ h2,h3,h4⟩
theorem RepDf1.ext {g g':Gh} {w w':World} (E:Ext g w g' w') {x:D×List D} {d:Deferred} (h:RepDf1 g w x d):RepDf1 g' w' x d:=by
 unfold RepDf1 at h
 split at h
 ·rename_i hx
  unfold RepDf1
  rw [hx]
  trivial
 ·rename_i k hk
  obtain ⟨h0,r,h1,hw,ha⟩:=h
  unfold RepDf1
  rw [hk]
  obtain ⟨hle,hne⟩:=(E.keeps.bind k h0 (Nat.lt_of_lt_of_le h0 E.len)).ne hw
  refine ⟨Nat.lt_of_lt_of_le h0 E.len,r,h1,hne,fun l' hm=>?_⟩
  rcases hle with hb|hb|⟨r1,n1,r2,n2,h1,h2,h3⟩
  ·exact ha l' (hb ▸ hm)
  ·rw [hb.2] at hm;cases hm
  ·rw [h2] at hm;cases hm
 ·obtain ⟨fn,first,cap,vs,h1,h2,h3,h4⟩:=h
  exact RepDf1.of ⟨fn,first,cap,vs,E.rep h1,E.repL h2,h3,h4⟩
def RepDf (g:Gh) (w:World):List (D×List D)→List Deferred→Prop
 | [],ds=>ds=[]
 | x::r,ds=>∃ d ds',ds=d::ds'∧RepDf1 g w x d∧RepDf g w r ds'
theorem RepDf.ext {g g':Gh} {w w':World} (E:Ext g w g' w'):∀ {xs:List (D×List D)} {ds:List Deferred},RepDf g w xs ds→RepDf g' w' xs ds
 | [],_,h=>h
 | x::r,ds,h=>by
  obtain ⟨d,ds',rfl,h1,h5⟩:=h
  exact ⟨d,ds',rfl,h1.ext E,h5.ext E⟩
theorem RepDf.keep {g g':Gh} {w w':World} (K:Keeps g w g' w'):∀ {xs:List (D×List D)} {ds:List Deferred},RepDf g w xs ds→RepDf g' w' (xs.map fun p=>(p.1.shut g'.len,D.shutL g'.len p.2)) ds
 | [],_,h=>h
 | x::r,ds,h=>by
  obtain ⟨d,ds',rfl,h1,h5⟩:=h
  exact ⟨d,ds',rfl,h1.keep K,h5.keep K⟩

def ExOk (g:Gh) (w:World):Ex→Exit→Prop
 | .normal,.normal=>True
 | .exit i,.exit j=>i=j
 | .ret,.ret=>True
 | .pan d,.panic chain=>∃ t u,chain=[{ v:=.iface t u,recovered:=false }]∧Rep g w d (.iface t u)
 | _,_=>False
structure EnvOk (n:Nat) (g:Gh) (w:World) (e:Env) (a:Act):Prop where
 len:e.t.length=n
 t:RepL g w e.t a.tmps.toList
 df:RepDf g w e.df a.defers
theorem EnvOk.ext {n:Nat} {g g':Gh} {w w':World} {e:Env} {a:Act} (h:EnvOk n g w e a) (E:Ext g w g' w'):EnvOk n g' w' e a:=⟨h.len,E.repL h.t,h.df.ext E⟩
def OutOk (n:Nat) (g:Gh) (w:World) (o:Out) (ex:Exit) (a:Act) (w':World):Prop :=
 ∃ g',Ext g w g' w'∧Inv g' o.st w'∧EnvOk n g' w' o.env a∧ExOk g' w' o.ex ex
theorem OutOk.ext {n:Nat} {g g1:Gh} {w w1 w':World} {o:Out} {ex:Exit} {a:Act} (E:Ext g w g1 w1) (h:OutOk n g1 w1 o ex a w'):OutOk n g w o ex a w':=by
 obtain ⟨g',E',h⟩:=h
 exact ⟨g',E.trans E',h⟩

theorem EnvOk.put {n:Nat} {g:Gh} {w:World} {e:Env} {a:Act} (h:EnvOk n g w e a) (dst:Option Tmp) {d:D} {v:Value} (hr:Rep g w d v) :
  EnvOk n g w { e with t:=putD dst d e.t } (a.put dst v):=by
 cases dst with
 | none=>exact h
 | some t =>
  refine ⟨by simp [putD,h.len], ?_,h.df⟩
  simp only [putD,Act.put,Array.toList_setIfInBounds]
  exact h.t.set hr t

theorem wanted_sim {ops:Array Oper} {n:Nat} {g:Gh} {w:World} {e:Env} {a:Act} (h:EnvOk n g w e a) {o:Oper} {b:Bool} (hw:wantedD ops e.t o=some b) :
  Region.wanted o (yielded ops a.tmps)=b:=by
 unfold wantedD at hw
 unfold Region.wanted
 split at hw
 ·rename_i hg
  rw [hg]
  simpa using hw
 ·rename_i j want hg
  rw [hg]
  simp only
  split at hw
  ·rename_i t ht
   unfold yielded
   rw [ht]
   simp only [Option.bind_some]
   cases het:e.t[t]? with
   | none =>
    simp only [List.getD,het,Option.getD_none,undefD,guardB,Option.some.injEq] at hw
    subst hw
    have:a.tmps[t]?=none:=by
     simp at het
     rw [h.t.length] at het
     simp at het
     simp [het]
    simp [this]
   | some d =>
    obtain ⟨v,hv,hr⟩:=h.t.get het
    have hv':a.tmps[t]?=some v:=by simpa using hv
    simp only [List.getD,het,Option.getD_some] at hw
    rw [hv']
    unfold guardB at hw
    split at hw
    ·simp only [Rep] at hr
     subst hr
     simp only [Option.some.injEq] at hw
     subst hw
     rename_i b
     cases b<;>cases want<;>rfl
    ·simp only [Rep] at hr
     obtain ⟨vs,rfl,_⟩:=hr
     simp only [Option.some.injEq] at hw
     subst hw
     cases want<;>rfl
    ·cases hw
  ·rename_i ht
   simp only [Option.some.injEq] at hw
   subst hw
   unfold yielded
   rw [ht]
   cases want<;>rfl

theorem callsIn_FR {ro:Option Nat} {n:Nat} {P:Program} {f:FuncId} {args:Array Value} {w:World} {R:Ending→World→Prop}:CallsIn (FR ro) n P f args w R↔Calls P f args w R:=callsIn_wide (n:=n)
def PlainAt (ro:Option Nat) (o:Oper):Prop:=ro=none∨∀ c,o.op≠.defer c
theorem semAt_FR {ro:Option Nat} {o:Oper} (h:PlainAt ro o) (ρ:Operand→Value):o.semAt (FR ro).round ρ=execOp ρ o:=by
 rcases h with rfl|h
 ·exact Oper.semAt_none ρ o
 ·exact Oper.semAt_eq _ ρ o h
theorem Oper.wpIn_of {P:Program} {ro:Option Nat} {o:Oper} {a:Act} {w:World} {K:Act→World→Prop} {Q:Exit→Act→World→Prop} (hp:PlainAt ro o)
  (h:o.uponIn (FR ro) 0 P a K Q ((execOp a.eval o).run P w)):o.wpIn (FR ro) 0 P a w K Q :=
 ⟨fun _ _=>trivial,by rw [semAt_FR hp];exact h⟩
theorem Oper.wpIn_value {P:Program} {ro:Option Nat} {o:Oper} {a:Act} {w w':World} {z:Value} {K:Act→World→Prop} {Q:Exit→Act→World→Prop} (hp:PlainAt ro o)
  (h:(execOp a.eval o).run P w=.ok (.value z) w') (hK:K (a.put o.dst z) w'):o.wpIn (FR ro) 0 P a w K Q :=
 Oper.wpIn_of hp (by rw [h];exact hK)
theorem Oper.wpIn_skip {P:Program} {ro:Option Nat} {o:Oper} {a:Act} {w w':World} {K:Act→World→Prop} {Q:Exit→Act→World→Prop} (hp:PlainAt ro o)
  (h:(execOp a.eval o).run P w=.ok .skip w') (hK:K (a.put o.dst undef) w'):o.wpIn (FR ro) 0 P a w K Q :=
 Oper.wpIn_of hp (by rw [h];exact hK)

theorem repL_fn {gh:Gh} {w:World} {d:D} {f:Fn} {first cap:List D} {v:Value} (h:Rep gh w (.fn f first cap) v):∃ fs cs:Array Value,v=.func f fs cs∧RepL gh w first fs.toList∧RepL gh w cap cs.toList:=by
 simpa [Rep] using h

theorem call_sim {P:Program} {ro:Option Nat} {call:FuncId→List D→St→ORes} (hc:CallOk P call) {o:Oper} {e:Env} {a:Act} {A:St} {r:Res×St} (h:callD call e.t o.op A=some r)
  {n:Nat} {g:Gh} {w:World} (I:Inv g A w) (he:EnvOk n g w e a) {K:Act→World→Prop} {Q:Exit→Act→World→Prop}
  (hK:∀ g' w' d v,r.1=.ret d→Ext g w g' w'→Inv g' r.2 w'→Rep g' w' d v→K (a.put o.dst v) w')
  (hQ:∀ g' w' d t u,r.1=.pan d→Ext g w g' w'→Inv g' r.2 w'→Rep g' w' d (.iface t u)→Q (.panic [{ v:=.iface t u,recovered:=false }]) a w'):o.wpIn (FR ro) 0 P a w K Q:=by
 have hpl:PlainAt ro o:=.inr fun c hc=>by rw [hc] at h;simp [callD] at h
 have ev:=fun x=>rep_eval he.t x
 obtain ⟨dst,op,type,pos,after,guard⟩:=o
 have hp1:∀ {x:Operand} {p:Res},panicD (evalO e.t x)=some p→(p,A)=r→(∀ t u,a.eval x=.iface t u→(execOp a.eval ⟨dst,op,type,pos,after,guard⟩).run P w=.halt (.panic (.iface t u)) w)→Oper.wpIn (FR ro) 0 P ⟨dst,op,type,pos,after,guard⟩ a w K Q:=by
  intro x p hp hr hrun
  subst hr
  have hx':=ev x
  unfold panicD at hp
  split at hp
  ·rename_i t d hd
   cases hp
   rw [hd] at hx'
   have hx2:=hx'
   simp only [Rep] at hx'
   obtain ⟨u,hu,_⟩:=hx'
   refine Oper.wpIn_of hpl ?_
   rw [hrun t u hu]
   rw [hu] at hx2
   exact hQ g w _ t u rfl (Ext.refl _ _) I hx2
  ·cases hp
 cases op<;>simp only [callD,reduceCtorEq] at h
 case panic x =>
  simp only [Option.map_eq_some_iff] at h
  obtain ⟨p,hp,hr⟩:=h
  exact hp1 hp hr fun t u hu=>by simp [execOp,Instr.panic,hu]
 rename_i c
 obtain ⟨callee,args,argTypes⟩:=c
 cases callee with
 | invoke=>simp only [reduceCtorEq] at h
 | builtin b =>
  cases b<;>(try (simp only [reduceCtorEq] at h;done))
  simp only at h
  split at h
  ·rename_i x hx
   simp only [Option.map_eq_some_iff] at h
   obtain ⟨p,hp,rfl⟩:=h
   have hx':=ev x
   unfold panicD at hp
   split at hp
   ·rename_i t d hd
    cases hp
    rw [hd] at hx'
    have hx2:=hx'
    simp only [Rep] at hx'
    obtain ⟨u,hu,_⟩:=hx'
    have e1:args=#[x]:=by rw [← Array.toArray_toList (xs:=args),hx]
    subst e1
    have hrun:(execOp a.eval ⟨dst,.call ⟨.builtin .panic,#[x],argTypes⟩,type,pos,after,guard⟩).run P w=.halt (.panic (.iface t u)) w:=by
     simp [execOp,resolve,invoke,builtin,Instr.panic,hu]
    refine Oper.wpIn_of hpl ?_
    rw [hrun]
    rw [hu] at hx2
    exact hQ g w _ t u rfl (Ext.refl _ _) I hx2
   ·cases hp
  ·cases h
 | value f =>
  simp only at h
  have hf:=ev f
  unfold applyD at h
  split at h
  ·rename_i gf first cap hd
   rw [hd] at hf
   simp only [Rep] at hf
   obtain ⟨fs,cs,hv,h1,h2⟩:=hf
   have hargs:=repL_map he.t args.toList
   have hall:RepL g w (first++args.toList.map (evalO e.t)++cap) (fs.toList++args.toList.map a.eval++cs.toList):=(h1.append hargs).append h2
   have harr:(fs.toList++args.toList.map a.eval++cs.toList).toArray=fs++args.map a.eval++cs:=by
    apply Array.ext';simp
   have hs:=(hc _ _ _ _ h).1 g w _ I hall
   rw [harr] at hs
   have hrun:(execOp a.eval ⟨dst,.call ⟨.value f,args,argTypes⟩,type,pos,after,guard⟩).run P w=(callFunc gf (fs++args.map a.eval++cs)).run P w:=by
    simp [execOp,resolve,Deferred.ofValue,invoke,hv]
   refine Oper.wpIn_of hpl ?_
   rw [hrun]
   rcases hs with ⟨h3,h4⟩|⟨v,w',g',d,h3,h4,h5,h6,h7⟩
   ·rw [h3]
    refine ⟨fun h=>(by cases h),callsIn_FR.2 (h4.mono fun en w' ⟨g',E,I',hen⟩=>?_)⟩
    obtain ⟨r1,r2⟩:=r
    cases r1 with
    | ret d =>
     cases en with
     | returned v=>exact hK g' w' d v rfl E I' hen
     | panicked chain=>exact hen.elim
     | outgrown=>exact hen.elim
    | pan d =>
     cases en with
     | returned v=>exact hen.elim
     | panicked chain =>
      obtain ⟨t,u,rfl,hr⟩:=hen
      exact hQ g' w' d t u rfl E I' hr
     | outgrown=>exact hen.elim
   ·rw [h3]
    exact hK g' w' d v h6 h4 h5 h7
  ·rename_i k hd
   rw [hd] at hf
   split at h
   ·rename_i f0' t rf hk
    simp only [Rep] at hf
    obtain ⟨_,hkl,l,hv,hw,hl⟩:=hf
    have hsl:=I.slot k _ hk
    obtain ⟨l',hm⟩:∃ l',g.m k=.obj l':=by
     cases hm:g.m k<;>rw [hm] at hsl<;>first|exact hsl.elim|exact ⟨_,rfl⟩
    have:=hl l' hm
    subst this
    obtain ⟨f0,tmps,assign,body,h3,h4⟩:=(hc _ _ _ _ h).2 k _ rfl rfl g w _ l I (repL_map he.t args.toList) hm
    have harr:(args.toList.map a.eval).toArray=args.map a.eval:=by apply Array.ext';simp
    rw [harr] at h3
    have hrun:(execOp a.eval ⟨dst,.call ⟨.value f,args,argTypes⟩,type,pos,after,guard⟩).run P w=.ok (.round l f0 tmps assign body) w:=by
     simpa [execOp,resolve,Deferred.ofValue,invoke,hv] using h3
    refine Oper.wpIn_of hpl ?_
    rw [hrun]
    refine ⟨fun h=>(by cases h), ?_⟩
    have h5:RoundIn (FR ro) (0 - 1) P l f0 tmps assign body w fun e w'=>∃ g',Ext g w g' w'∧Inv g' r.2 w'∧EndOk g' w' r.1 e:=h4
    refine h5.mono fun en w' ⟨g',E,I',hen⟩=>?_
    obtain ⟨r1,r2⟩:=r
    cases r1 with
    | ret d =>
     cases en with
     | returned v=>exact hK g' w' d v rfl E I' hen
     | panicked chain=>exact hen.elim
     | outgrown=>exact hen.elim
    | pan d =>
     cases en with
     | returned v=>exact hen.elim
     | panicked chain =>
      obtain ⟨t,u,rfl,hr⟩:=hen
      exact hQ g' w' d t u rfl E I' hr
     | outgrown=>exact hen.elim
   ·cases h
  ·cases h

theorem defer_sim {P:Program} {o:Oper} {e:Env} {a:Act} {x:D×List D} (h:deferD e.t o.op=some x) {n:Nat} {g:Gh} {w:World} (he:EnvOk n g w e a) :
  ∃ d,(execOp a.eval o).run P w=.ok (.defer d) w∧RepDf1 g w x d:=by
 have ev:=fun x=>rep_eval he.t x
 obtain ⟨dst,op,type,pos,after,guard⟩:=o
 cases op<;>simp only [deferD,reduceCtorEq] at h
 rename_i c
 obtain ⟨callee,args,argTypes⟩:=c
 cases callee<;>(try (simp only [reduceCtorEq] at h;done))
 rename_i f
 simp only at h
 have hv:=ev f
 split at h
 ·rename_i fn first cap hd
  simp only [Option.some.injEq] at h
  subst h
  rw [hd] at hv
  have hv2:=hv
  simp only [Rep] at hv
  obtain ⟨fs,cs,hv,h1,h2⟩:=hv
  rw [hv] at hv2
  refine ⟨{ target:=.fn fn cs,args:=fs++args.map a.eval },by simp [execOp,resolve,Deferred.ofValue,hv],RepDf1.of ⟨fn,fs,cs,args.toList.map a.eval,hv2,repL_map he.t args.toList,rfl, ?_⟩⟩
  apply Array.ext'
  simp
 ·cases h

def PlainOps (ro:Option Nat) (os:List Oper):Prop:=∀ o ∈ os,PlainAt ro o
theorem ops_sim (X:Cx) (hc:CallOk X.P X.call) (ops:Array Oper) (n:Nat) (ro:Option Nat):∀ (os:List Oper) (e:Env) (A:St) (o:Out),PlainOps ro os→opsD X ops os e A=some o →
  ∀ (g:Gh) (w:World) (a:Act),Inv g A w→EnvOk n g w e a→∀ Q:Exit→Act→World→Prop,(∀ ex a' w',OutOk n g w o ex a' w'→Q ex a' w')→wpListIn (FR ro) 0 X.P ops Q os a w
 | [],e,A,o,hpl,h,g,w,a,I,he,Q,hQ=>by
  simp only [opsD,Option.some.injEq] at h
  subst h
  exact hQ _ _ _ ⟨g,Ext.refl _ _,I,he,trivial⟩
 | op::os,e,A,o,hpl,h,g,w,a,I,he,Q,hQ=>by
  simp only [opsD,Option.bind_eq_some_iff] at h
  obtain ⟨b,hb,h⟩:=h
  have hwant:=wanted_sim he hb
  have next:∀ (g1:Gh) (w1:World) (e1:Env) (A1:St) (a1:Act),Ext g w g1 w1→Inv g1 A1 w1→EnvOk n g1 w1 e1 a1→opsD X ops os e1 A1=some o→wpListIn (FR ro) 0 X.P ops Q os a1 w1:=by
   intro g1 w1 e1 A1 a1 E I1 he1 h1
   exact ops_sim X hc ops n ro os e1 A1 o (fun o ho=>hpl o (by simp [ho])) h1 g1 w1 a1 I1 he1 Q fun ex a' w' ho=>hQ _ _ _ (ho.ext E)
  simp only [wpListIn,hwant]
  -- a value put behind an operation
  have put:∀ (g1:Gh) (w1:World) (A1:St) (d:D) (v:Value),Ext g w g1 w1→Inv g1 A1 w1→Rep g1 w1 d v →
    opsD X ops os { e with t:=putD op.dst (tokD (hintOf X.h op.dst) d A1).1 e.t } (tokD (hintOf X.h op.dst) d A1).2=some o→wpListIn (FR ro) 0 X.P ops Q os (a.put op.dst v) w1:=by
   intro g1 w1 A1 d v E I1 hr h1
   obtain ⟨g2,E2,I2,R2⟩:=tokD_sim (hintOf X.h op.dst) I1 hr
   exact next g2 w1 _ _ _ (E.trans E2) I2 (((he.ext E).ext E2).put op.dst R2) h1
  cases b with
  | false =>
   rw [if_neg (by simp)]
   refine ⟨fun _ _=>trivial, ?_⟩
   split at h
   ·simp only [cond_false,Option.bind_eq_some_iff,Option.some.injEq] at h
    obtain ⟨d,rfl,h⟩:=h
    exact put g w A undefD undef (Ext.refl _ _) I (rep_undef g w) h
   ·simp only [cond_false,Option.bind_eq_some_iff,Option.some.injEq] at h
    obtain ⟨r,rfl,h⟩:=h
    exact put g w A undefD undef (Ext.refl _ _) I (rep_undef g w) h
   ·simp only [cond_false,Option.bind_eq_some_iff,Option.some.injEq] at h
    obtain ⟨r,rfl,h⟩:=h
    exact next g w _ _ _ (Ext.refl _ _) I (he.put op.dst (rep_undef g w)) h
   ·simp at h
   ·cases h
  | true =>
   rw [if_pos rfl]
   have hpo:PlainAt ro op:=hpl op (by simp)
   split at h
   ·simp only [cond_true,Option.bind_eq_some_iff] at h
    obtain ⟨d,hd,h⟩:=h
    obtain ⟨z,h1,h2⟩:=pure_sim hd he.t
    exact Oper.wpIn_value hpo h1 (put g w A d z (Ext.refl _ _) I h2 h)
   ·simp only [cond_true,Option.bind_eq_some_iff] at h
    obtain ⟨r,hd,h⟩:=h
    obtain ⟨nx,w',g',h1,h2,h3,h4⟩:=worldH_sim (d:=r.1) (A':=r.2) hd I he.t
    cases nx<;>simp only [NextOk] at h2
    case value z=>exact Oper.wpIn_value hpo h1 (put g' w' r.2 r.1 z h3 h4 h2 h)
    case skip =>
     rw [h2] at h
     exact Oper.wpIn_skip hpo h1 (put g' w' r.2 undefD undef h3 h4 (rep_undef _ _) h)
   ·simp only [cond_true,Option.bind_eq_some_iff] at h
    obtain ⟨r,hd,h⟩:=h
    refine call_sim hc hd I he (fun g' w' d v hr E I' R=>?_) fun g' w' d t u hr E I' R=>?_
    ·rw [hr] at h
     exact next g' w' _ _ _ E I' ((he.ext E).put op.dst R) h
    ·rw [hr] at h
     simp only [Res.elim,Option.some.injEq] at h
     subst h
     exact hQ _ _ _ ⟨g',E,I',he.ext E,t,u,rfl,R⟩
   ·simp only [cond_true,Option.bind_eq_some_iff] at h
    obtain ⟨x,hx,h⟩:=h
    obtain ⟨d,h1,h2⟩:=defer_sim (P:=X.P) hx he
    refine Oper.wpIn_of hpo ?_
    rw [h1]
    refine next g w _ A _ (Ext.refl _ _) I ?_ h
    have he1:EnvOk n g w { e with df:=x::e.df } { a with defers:=d::a.defers }:=⟨he.len,he.t,⟨d,a.defers,rfl,h2,he.df⟩⟩
    exact he1.put op.dst (rep_undef g w)
   ·cases h
theorem Oper.wp_value {P:Program} {o:Oper} {a:Act} {w w':World} {z:Value} {K:Act→World→Prop} {Q:Exit→Act→World→Prop}
  (h:(execOp a.eval o).run P w=.ok (.value z) w') (hK:K (a.put o.dst z) w'):o.wp P a w K Q:=by
 unfold Oper.wp;rw [h];exact hK
theorem Oper.wp_skip {P:Program} {o:Oper} {a:Act} {w w':World} {K:Act→World→Prop} {Q:Exit→Act→World→Prop}
  (h:(execOp a.eval o).run P w=.ok .skip w') (hK:K (a.put o.dst undef) w'):o.wp P a w K Q:=by
 unfold Oper.wp;rw [h];exact hK

theorem call_simP {P:Program} {call:FuncId→List D→St→ORes} (hc:CallOk P call) {o:Oper} {e:Env} {a:Act} {A:St} {r:Res×St} (h:callD call e.t o.op A=some r) (hy:yldCall e.t o.op=false)
  {n:Nat} {g:Gh} {w:World} (I:Inv g A w) (he:EnvOk n g w e a) {K:Act→World→Prop} {Q:Exit→Act→World→Prop}
  (hK:∀ g' w' d v,r.1=.ret d→Ext g w g' w'→Inv g' r.2 w'→Rep g' w' d v→K (a.put o.dst v) w')
  (hQ:∀ g' w' d t u,r.1=.pan d→Ext g w g' w'→Inv g' r.2 w'→Rep g' w' d (.iface t u)→Q (.panic [{ v:=.iface t u,recovered:=false }]) a w'):o.wp P a w K Q:=by
 have ev:=fun x=>rep_eval he.t x
 obtain ⟨dst,op,type,pos,after,guard⟩:=o
 have hp1:∀ {x:Operand} {p:Res},panicD (evalO e.t x)=some p→(p,A)=r→(∀ t u,a.eval x=.iface t u→(execOp a.eval ⟨dst,op,type,pos,after,guard⟩).run P w=.halt (.panic (.iface t u)) w)→Oper.wp P ⟨dst,op,type,pos,after,guard⟩ a w K Q:=by
  intro x p hp hr hrun
  subst hr
  have hx':=ev x
  unfold panicD at hp
  split at hp
  ·rename_i t d hd
   cases hp
   rw [hd] at hx'
   have hx2:=hx'
   simp only [Rep] at hx'
   obtain ⟨u,hu,_⟩:=hx'
   unfold Oper.wp
   rw [hrun t u hu]
   rw [hu] at hx2
   exact hQ g w _ t u rfl (Ext.refl _ _) I hx2
  ·cases hp
 cases op<;>simp only [callD,reduceCtorEq] at h
 case panic x =>
  simp only [Option.map_eq_some_iff] at h
  obtain ⟨p,hp,hr⟩:=h
  exact hp1 hp hr fun t u hu=>by simp [execOp,Instr.panic,hu]
 rename_i c
 obtain ⟨callee,args,argTypes⟩:=c
 cases callee with
 | invoke=>simp only [reduceCtorEq] at h
 | builtin b =>
  cases b<;>(try (simp only [reduceCtorEq] at h;done))
  simp only at h
  split at h
  ·rename_i x hx
   simp only [Option.map_eq_some_iff] at h
   obtain ⟨p,hp,rfl⟩:=h
   have hx':=ev x
   unfold panicD at hp
   split at hp
   ·rename_i t d hd
    cases hp
    rw [hd] at hx'
    have hx2:=hx'
    simp only [Rep] at hx'
    obtain ⟨u,hu,_⟩:=hx'
    have e1:args=#[x]:=by rw [← Array.toArray_toList (xs:=args),hx]
    subst e1
    have hrun:(execOp a.eval ⟨dst,.call ⟨.builtin .panic,#[x],argTypes⟩,type,pos,after,guard⟩).run P w=.halt (.panic (.iface t u)) w:=by
     simp [execOp,resolve,invoke,builtin,Instr.panic,hu]
    unfold Oper.wp
    rw [hrun]
    rw [hu] at hx2
    exact hQ g w _ t u rfl (Ext.refl _ _) I hx2
   ·cases hp
  ·cases h
 | value f =>
  simp only at h
  have hf:=ev f
  unfold applyD at h
  split at h
  ·rename_i gf first cap hd
   rw [hd] at hf
   simp only [Rep] at hf
   obtain ⟨fs,cs,hv,h1,h2⟩:=hf
   have hargs:=repL_map he.t args.toList
   have hall:RepL g w (first++args.toList.map (evalO e.t)++cap) (fs.toList++args.toList.map a.eval++cs.toList):=(h1.append hargs).append h2
   have harr:(fs.toList++args.toList.map a.eval++cs.toList).toArray=fs++args.map a.eval++cs:=by
    apply Array.ext';simp
   have hs:=(hc _ _ _ _ h).1 g w _ I hall
   rw [harr] at hs
   have hrun:(execOp a.eval ⟨dst,.call ⟨.value f,args,argTypes⟩,type,pos,after,guard⟩).run P w=(callFunc gf (fs++args.map a.eval++cs)).run P w:=by
    simp [execOp,resolve,Deferred.ofValue,invoke,hv]
   unfold Oper.wp
   rw [hrun]
   rcases hs with ⟨h3,h4⟩|⟨v,w',g',d,h3,h4,h5,h6,h7⟩
   ·rw [h3]
    simp only [Oper.upon]
    refine h4.mono fun en w' ⟨g',E,I',hen⟩=>?_
    obtain ⟨r1,r2⟩:=r
    cases r1 with
    | ret d =>
     cases en with
     | returned v=>exact hK g' w' d v rfl E I' hen
     | panicked chain=>exact hen.elim
     | outgrown=>exact hen.elim
    | pan d =>
     cases en with
     | returned v=>exact hen.elim
     | panicked chain =>
      obtain ⟨t,u,rfl,hr⟩:=hen
      exact hQ g' w' d t u rfl E I' hr
     | outgrown=>exact hen.elim
   ·rw [h3]
    exact hK g' w' d v h6 h4 h5 h7
  ·rename_i k hd
   simp [yldCall,hd] at hy
  ·cases h

theorem ops_simP (X:Cx) (hc:CallOk X.P X.call) (ops:Array Oper) (n:Nat):∀ (os:List Oper) (e:Env) (A:St) (o:Out),(∀ op ∈ os,os=[op]∧yldCall e.t op.op=false)→opsD X ops os e A=some o →
  ∀ (g:Gh) (w:World) (a:Act),Inv g A w→EnvOk n g w e a→∀ Q:Exit→Act→World→Prop,(∀ ex a' w',OutOk n g w o ex a' w'→Q ex a' w')→wpList X.P ops Q os a w
 | [],e,A,o,hy,h,g,w,a,I,he,Q,hQ=>by
  simp only [opsD,Option.some.injEq] at h
  subst h
  exact hQ _ _ _ ⟨g,Ext.refl _ _,I,he,trivial⟩
 | op::os,e,A,o,hy,h,g,w,a,I,he,Q,hQ=>by
  have hy0:=hy op (by simp)
  have hnil:os=[]:=by simpa using hy0.1
  simp only [opsD,Option.bind_eq_some_iff] at h
  obtain ⟨b,hb,h⟩:=h
  have hwant:=wanted_sim he hb
  have next:∀ (g1:Gh) (w1:World) (e1:Env) (A1:St) (a1:Act),Ext g w g1 w1→Inv g1 A1 w1→EnvOk n g1 w1 e1 a1→opsD X ops os e1 A1=some o→wpList X.P ops Q os a1 w1:=by
   intro g1 w1 e1 A1 a1 E I1 he1 h1
   exact ops_simP X hc ops n os e1 A1 o (by subst hnil;simp) h1 g1 w1 a1 I1 he1 Q fun ex a' w' ho=>hQ _ _ _ (ho.ext E)
  simp only [wpList,hwant]
  -- a value put behind an operation
  have put:∀ (g1:Gh) (w1:World) (A1:St) (d:D) (v:Value),Ext g w g1 w1→Inv g1 A1 w1→Rep g1 w1 d v →
    opsD X ops os { e with t:=putD op.dst (tokD (hintOf X.h op.dst) d A1).1 e.t } (tokD (hintOf X.h op.dst) d A1).2=some o→wpList X.P ops Q os (a.put op.dst v) w1:=by
   intro g1 w1 A1 d v E I1 hr h1
   obtain ⟨g2,E2,I2,R2⟩:=tokD_sim (hintOf X.h op.dst) I1 hr
   exact next g2 w1 _ _ _ (E.trans E2) I2 (((he.ext E).ext E2).put op.dst R2) h1
  cases b with
  | false =>
   rw [if_neg (by simp)]
   split at h
   ·simp only [cond_false,Option.bind_eq_some_iff,Option.some.injEq] at h
    obtain ⟨d,rfl,h⟩:=h
    exact put g w A undefD undef (Ext.refl _ _) I (rep_undef g w) h
   ·simp only [cond_false,Option.bind_eq_some_iff,Option.some.injEq] at h
    obtain ⟨r,rfl,h⟩:=h
    exact put g w A undefD undef (Ext.refl _ _) I (rep_undef g w) h
   ·simp only [cond_false,Option.bind_eq_some_iff,Option.some.injEq] at h
    obtain ⟨r,rfl,h⟩:=h
    exact next g w _ _ _ (Ext.refl _ _) I (he.put op.dst (rep_undef g w)) h
   ·simp at h
   ·cases h
  | true =>
   rw [if_pos rfl]
   left
   split at h
   ·simp only [cond_true,Option.bind_eq_some_iff] at h
    obtain ⟨d,hd,h⟩:=h
    obtain ⟨z,h1,h2⟩:=pure_sim hd he.t
    exact Oper.wp_value h1 (put g w A d z (Ext.refl _ _) I h2 h)
   ·simp only [cond_true,Option.bind_eq_some_iff] at h
    obtain ⟨r,hd,h⟩:=h
    obtain ⟨nx,w',g',h1,h2,h3,h4⟩:=worldH_sim (d:=r.1) (A':=r.2) hd I he.t
    cases nx<;>simp only [NextOk] at h2
    case value z=>exact Oper.wp_value h1 (put g' w' r.2 r.1 z h3 h4 h2 h)
    case skip =>
     rw [h2] at h
     exact Oper.wp_skip h1 (put g' w' r.2 undefD undef h3 h4 (rep_undef _ _) h)
   ·simp only [cond_true,Option.bind_eq_some_iff] at h
    obtain ⟨r,hd,h⟩:=h
    refine call_simP hc hd hy0.2 I he (fun g' w' d v hr E I' R=>?_) fun g' w' d t u hr E I' R=>?_
    ·rw [hr] at h
     exact next g' w' _ _ _ E I' ((he.ext E).put op.dst R) h
    ·rw [hr] at h
     simp only [Res.elim,Option.some.injEq] at h
     subst h
     exact hQ _ _ _ ⟨g',E,I',he.ext E,t,u,rfl,R⟩
   ·simp only [cond_true,Option.bind_eq_some_iff] at h
    obtain ⟨x,hx,h⟩:=h
    obtain ⟨d,h1,h2⟩:=defer_sim (P:=X.P) hx he
    unfold Oper.wp
    rw [h1]
    simp only [Oper.upon]
    refine next g w _ A _ (Ext.refl _ _) I ?_ h
    have he1:EnvOk n g w { e with df:=x::e.df } { a with defers:=d::a.defers }:=⟨he.len,he.t,⟨d,a.defers,rfl,h2,he.df⟩⟩
    exact he1.put op.dst (rep_undef g w)
   ·cases h
end Go.Vm
