/- VmRound, VmCode in one text. -/
import Derived.Test.YtagmpieoalkneaaGreatDoorVmRun
import Derived.RangeFuncRecord
set_option linter.all false
/- Code of one function,with loops over functions: the laws by which it is walked;one round;the function's own contract. -/
namespace Go.Vm
open Go.RowKit

theorem fenced_FR (P:Program) (ro:Option Nat) (m:Machine):m.fenced P (FR ro):=fenced_wide P m
theorem room_FR (ro:Option Nat) (n:Nat):(FR ro).room n:=room_wide n
def wpF (f:FuncId) (P:Program) (c:Code) (Q:Exit→Act→World→Prop) (a:Act) (w:World):Prop :=
 ∀ (b:Frame) (k:List Item) (cs:List Frame),b.roundOf=none→b.fn=f →
  ∃ e a' w',Q e a' w'∧ArrivesIn (Machine.fenced P (FR none)) P (lone (b.atR a (.code c::k)) cs w) b k cs e a' w'

section
variable {f:FuncId} {P:Program} {Q:Exit→Act→World→Prop} {a:Act} {w:World}
theorem wpF_of_wpIn {c:Code} (h:c.wpIn (FR none) 0 P Q a w):wpF f P c Q a w:=fun b k cs hro _=>h b k cs hro trivial (room_FR _ _)
theorem wpF_seq {x y:Code} (h:wpF f P x (Exit.then (wpF f P y Q) Q) a w):wpF f P (.seq x y) Q a w:=by
 intro b k cs hro hb
 have h0:(lone (b.atR a (.code (.seq x y)::k)) cs w).fenced P (FR none):=fenced_FR _ _ _
 obtain ⟨e,a₁,w₁,hq,harr⟩:=h b (.code y::k) cs hro hb
 cases e with
 | normal =>
  obtain ⟨e₂,a₂,w₂,hq₂,harr₂⟩:=hq b k cs hro hb
  exact ⟨e₂,a₂,w₂,hq₂,.of_steps (.head h0 stepR_seq harr) harr₂⟩
 | exit id=>exact ⟨_,a₁,w₁,hq,.of_steps (.one h0 stepR_seq) (.pass (x:=.code y) rfl (fun _ _=>.inl (by simp)) harr)⟩
 | goto l=>exact ⟨_,a₁,w₁,hq,.of_steps (.one h0 stepR_seq) (.pass (x:=.code y) rfl (fun _ _=>.inl (by simp)) harr)⟩
 | ret=>exact ⟨_,a₁,w₁,hq,.of_steps (.one h0 stepR_seq) (.pass (x:=.code y) rfl (fun _ _=>.inl (by simp)) harr)⟩
 | panic ch=>exact ⟨_,a₁,w₁,hq,.of_steps (.one h0 stepR_seq) (.pass (x:=.code y) rfl (fun _ _=>.inl (by simp)) harr)⟩
 | outgrown=>exact ⟨_,a₁,w₁,hq,.of_steps (.one h0 stepR_seq) (.pass (x:=.code y) rfl (fun _ _=>.inl (by simp)) harr)⟩
theorem wpF_cond {c:Operand} {x y:Code} {t:Bool} (hc:a.eval c=.bool t) (h:wpF f P (if t then x else y) Q a w):wpF f P (.cond c x y) Q a w :=
 fun b k cs hro hb=>let ⟨e,a',w',q,r⟩:=h b k cs hro hb;⟨e,a',w',q,.of_steps (.one (fenced_FR _ _ _) (stepR_cond hc)) r⟩
theorem wpF_block {id:Nat} {c:Code} (h:wpF f P c (Exit.inBlock id Q) a w):wpF f P (.block id c) Q a w:=by
 intro b k cs hro hb
 have h0:(lone (b.atR a (.code (.block id c)::k)) cs w).fenced P (FR none):=fenced_FR _ _ _
 obtain ⟨e,a₁,w₁,hq,harr⟩:=h b (.inBlock id::k) cs hro hb
 cases e with
 | normal=>exact ⟨.normal,a₁,w₁,hq,.head h0 stepR_block (StepsIn.trans harr (.one (fenced_FR _ _ _) stepR_inBlock))⟩
 | exit id' =>
  by_cases hid:id'=id
  ·simp only [Exit.inBlock,hid,if_true] at hq
   exact ⟨.normal,a₁,w₁,hq,.head h0 stepR_block (harr.1 k (by simp [exitTo,hid]))⟩
  ·simp only [Exit.inBlock,hid,if_false] at hq
   have this:(id == id')=false:=by simp;exact fun h=>hid h.symm
   have hx:exitTo id' (.inBlock id::k)=exitTo id' k:=by simp [exitTo,this]
   exact ⟨.exit id',a₁,w₁,hq,fun k' hk=>.head h0 stepR_block (harr.1 k' (by rw [hx];exact hk)),
    fun hr' hk=>let ⟨k₁,h1,h2⟩:=harr.2 hr' (by rw [hx];exact hk);⟨k₁,h1,.head h0 stepR_block h2⟩⟩
 | goto l =>
  have hx:gotoIn l (.inBlock id::k)=gotoIn l k:=by simp [gotoIn]
  exact ⟨_,a₁,w₁,hq,fun k' hk=>.head h0 stepR_block (harr.1 k' (by rw [hx];exact hk)),
   fun hr' hk=>let ⟨k₁,h1,h2⟩:=harr.2 hr' (by rw [hx];exact hk);⟨k₁,h1,.head h0 stepR_block h2⟩⟩
 | ret=>exact ⟨_,a₁,w₁,hq,.of_steps (.one h0 stepR_block) harr⟩
 | panic ch=>exact ⟨_,a₁,w₁,hq,.of_steps (.one h0 stepR_block) harr⟩
 | outgrown=>exact ⟨_,a₁,w₁,hq,.of_steps (.one h0 stepR_block) harr⟩
def roundsF (f:FuncId) (P:Program) (c:Code) (Q:Exit→Act→World→Prop):Nat→Act→World→Prop
 | 0,_,_=>False
 | m+1,a,w=>wpF f P c (Exit.then (roundsF f P c Q m) Q) a w
theorem wpF_loop_rounds {c:Code} (m:Nat) (h:roundsF f P c Q m a w):wpF f P (.loop c) Q a w:=by
 intro b k cs hro hb
 have key:∀ m a w,roundsF f P c Q m a w →
   ∃ e a' w',Q e a' w'∧ArrivesIn (Machine.fenced P (FR none)) P (lone (b.atR a (.code c::.inLoop c::k)) cs w) b k cs e a' w':=by
  intro m
  induction m with
  | zero=>intro a w h;exact h.elim
  | succ m ih =>
   intro a w h
   obtain ⟨e,a₁,w₁,hq,harr⟩:=h b (.inLoop c::k) cs hro hb
   cases e with
   | normal =>
    obtain ⟨e₂,a₂,w₂,hq₂,harr₂⟩:=ih a₁ w₁ hq
    exact ⟨e₂,a₂,w₂,hq₂,.of_steps (StepsIn.trans harr (.one (fenced_FR _ _ _) stepR_inLoop)) harr₂⟩
   | exit id=>exact ⟨_,a₁,w₁,hq,.pass (x:=.inLoop c) rfl (fun _ _=>.inl (by simp)) harr⟩
   | goto l=>exact ⟨_,a₁,w₁,hq,.pass (x:=.inLoop c) rfl (fun _ _=>.inl (by simp)) harr⟩
   | ret=>exact ⟨_,a₁,w₁,hq,.pass (x:=.inLoop c) rfl (fun _ _=>.inl (by simp)) harr⟩
   | panic ch=>exact ⟨_,a₁,w₁,hq,.pass (x:=.inLoop c) rfl (fun _ _=>.inl (by simp)) harr⟩
   | outgrown=>exact ⟨_,a₁,w₁,hq,.pass (x:=.inLoop c) rfl (fun _ _=>.inl (by simp)) harr⟩
 obtain ⟨e,a',w',hq,harr⟩:=key m a w h
 exact ⟨e,a',w',hq,.of_steps (.one (fenced_FR _ _ _) stepR_loop) harr⟩

def endF (f:FuncId) (P:Program) (l:Nat) (Q:Exit→Act→World→Prop) (a':Act):Ending→World→Prop
 | .returned _,w₃=>∃ jump w₄,(Instr.endLoop l).run P w₃=.ok jump w₄ ∧
   (match jump with
    | none=>Q .normal a' w₄
    | some c=>wpF f P c Q a' w₄)
 | .panicked chain,w₃=>Q (.panic chain) a' w₃
 | .outgrown,_=>False
theorem wpF_rangeFunc {g:Operand} {ps:Array Tmp} {assign body:Code} {l:Nat} {mark:List Deferred} {w₁ w₁' w₂:World} {d:Deferred} {q:FuncId} {args:Array Value}
  (he:(Instr.enterLoop f a.tmps ps assign body none).run P w=.ok (l,mark) w₁)
  (hres:(resolve a.eval (rangeCall g l) 0).run P w₁=.ok d w₁')
  (hinv:(invoke d.target d.args).run P w₁'=.ok (.enter q args) w₂)
  (hc:Calls P q args w₂ (endF f P l Q { a with defers:=mark++a.defers })):wpF f P (.rangeFunc g ps assign body) Q a w:=by
 intro b k cs hro hb
 subst hb
 rw [← hro] at he
 have henter:=stepR_rangeFunc (P:=P) (b:=b) (a:=a) (k:=k) (cs:=cs) (w:=w) he hres hinv
 obtain ⟨e,w₃,fr,hR,hsteps,hfn,hleave⟩:=hc (b.atR { a with defers:=mark++a.defers } (.inRangeFunc l::k)::cs)
 have st:∀ {m m':Machine},Steps P m m'→StepsIn (Machine.fenced P (FR none)) P m m':=fun h=>(StepsIn.of_steps h).mono fun m _=>fenced_FR P none m
 cases e with
 | outgrown=>exact hR.elim
 | returned v =>
  obtain ⟨jump,w₄,hend,hj⟩:=hR
  have sback:StepsIn (Machine.fenced P (FR none)) P (lone (b.atR a (.code (.rangeFunc g ps assign body)::k)) cs w) (lone (b.atR { a with defers:=mark++a.defers } ((jump.map Item.code).toList++k)) cs w₄):=by
   refine .head (fenced_FR _ _ _) henter (StepsIn.trans (st hsteps) (.head (fenced_FR _ _ _) ?_ (.one (fenced_FR _ _ _) (stepR_endRangeFunc hend))))
   rw [← finish_atR_inRangeFunc l v];exact step_leave_returned hleave
  cases jump with
  | none=>exact ⟨.normal,_,w₄,hj,sback⟩
  | some c =>
   obtain ⟨e',a'',w₅,hq,harr⟩:=hj b k cs hro rfl
   exact ⟨e',a'',w₅,hq,.of_steps sback harr⟩
 | panicked chain =>
  refine ⟨.panic chain,_,w₃,hR,.inRangeFunc l::k,.head (fenced_FR _ _ _) henter (StepsIn.trans (st hsteps) (.one (fenced_FR _ _ _) ?_))⟩
  rw [← Frame.raise_atR];exact step_leave_panicked hleave
end

def roundPostM (P:Program) (l:Nat) (R:Ending→World→Prop):Exit→Act→World→Prop
 | .panic chain,a,w=>a.defers=[]∧R (.panicked chain) w
 | e,a,w=>roundPost P l R e a w
theorem step_round_panicked {P:Program} {fr c:Frame} {cs:List Frame} {w:World} {chain:List PanicEntry} {fn:Func} (hm:fr.mode=.panicking chain) (hd:fr.defers=[]) (hf:P.funcs[fr.fn]?=some fn) :
  step P (lone fr (c::cs) w)=.next (lone (c.raise chain) cs w) :=
 step_lone_go (by simp [stepG,unwind,Frame.catches,hm,hd,hf])
theorem round_of_wpIn {P:Program} {l:Nat} {f:FuncId} {fn:Func} (hf:P.funcs[f]?=some fn) {tmps:Array Value} {assign body:Code} {w:World} {R:Ending→World→Prop}
  (h:assign.wpIn (FR (some l)) 0 P (Exit.then (fun a₁ w₁=>∃ w₂,(Instr.beginRound l).run P w₁=.ok () w₂∧body.wpIn (FR (some l)) 0 P (roundPostM P l R) a₁ w₂) (fun _ _ _=>False))
   { tmps:=tmps,defers:=[] } w) :
  RoundIn (FR none) 0 P l f tmps assign body w R:=by
 refine ⟨trivial,fun c cs hr=>?_⟩
 let b:Frame:={ (default:Frame) with fn:=f,kind:=.normal,roundOf:=some l }
 have hb0:Frame.round l f tmps assign body .normal=b.atR { tmps:=tmps,defers:=[] } [.code assign,.beginRound,.code body]:=by
  simp [Frame.round,Frame.atR,b]
 obtain ⟨e,a₁,w₁,hq,harr⟩:=h b [.beginRound,.code body] (c::cs) rfl trivial (room_FR _ _)
 rw [← hb0] at harr
 have F:∀ m:Machine,m.fenced P (FR (some l)):=fenced_FR P _
 cases e with
 | normal =>
  obtain ⟨w₂,hbr,hbody⟩:=hq
  have s1:StepsIn (Machine.fenced P (FR (some l))) P (lone (b.atR a₁ [.beginRound,.code body]) (c::cs) w₁) (lone (b.atR a₁ [.code body]) (c::cs) w₂) :=
   .one (F _) (stepR_beginRound rfl hbr)
  obtain ⟨e₂,a₂,w₃,hq₂,harr₂⟩:=hbody b [] (c::cs) rfl trivial (room_FR _ _)
  cases e₂ with
  | normal =>
   obtain ⟨v,w₄,hend,hR⟩:=hq₂
   exact ⟨.returned v,w₄,hR,(StepsIn.trans harr s1).trans (StepsIn.trans harr₂ (.one (F _) (stepR_round_end rfl rfl hend)))⟩
  | ret =>
   obtain ⟨v,w₄,hend,hR⟩:=hq₂
   obtain ⟨k₁,hs⟩:=harr₂.2 rfl
   exact ⟨.returned v,w₄,hR,(StepsIn.trans harr s1).trans (StepsIn.trans hs (.one (F _) (stepR_round_ret rfl rfl hend)))⟩
  | exit id =>
   obtain ⟨v,w₄,hend,hR⟩:=hq₂
   obtain ⟨k₁,hk,hs⟩:=harr₂.2 rfl rfl
   exact ⟨.returned v,w₄,hR,(StepsIn.trans harr s1).trans (StepsIn.trans hs (.one (F _) (stepR_round_exit rfl rfl hk hend)))⟩
  | goto t =>
   obtain ⟨v,w₄,hend,hR⟩:=hq₂
   obtain ⟨k₁,hk,hs⟩:=harr₂.2 rfl rfl
   exact ⟨.returned v,w₄,hR,(StepsIn.trans harr s1).trans (StepsIn.trans hs (.one (F _) (stepR_round_goto rfl rfl hk hend)))⟩
  | panic chain =>
   obtain ⟨hd,hR⟩:=hq₂
   obtain ⟨todo,hs⟩:=harr₂
   exact ⟨.panicked chain,w₃,hR,(StepsIn.trans harr s1).trans (StepsIn.trans hs (.one (F _) (step_round_panicked (fn:=fn) rfl hd hf)))⟩
  | outgrown=>exact hq₂.elim
 | exit id=>exact hq.elim
 | goto t=>exact hq.elim
 | ret=>exact hq.elim
 | panic chain=>exact hq.elim
 | outgrown=>exact hq.elim

def LeavesM (P:Program) (fn:Func) (tmps:Array Value) (R:Ending→World→Prop):List Deferred→FrameMode→World→Prop
 | [],u,w=>Leaves P fn tmps R [] u w
 | d::ds,u,w=>u≠.run ∧
     ((∃ r w',d.target=.collected r∧(Instr.takeDeferred r).run P w=.ok [] w'∧LeavesM P fn tmps R ds u w') ∨
      (∃ fv cap f args,d.target=.fn fv cap∧(invoke d.target d.args).run P w=.ok (.enter f args) w ∧
       CallsD P f args u w fun
        | .returned _,u',w'=>LeavesM P fn tmps R ds (settle u') w'
        | .panicked chain,u',w'=>LeavesM P fn tmps R ds (raised u' chain) w'
        | .outgrown,_,w'=>R .outgrown w'))
theorem leaves_stepsM {P:Program} {fn:Func} {tmps:Array Value} {R:Ending→World→Prop}:∀ (ds:List Deferred) (u:FrameMode) (w:World) (fr:Frame)
  (cs:List Frame),fr.mode=u→fr.defers=ds→fr.tmps=tmps→P.funcs[fr.fn]?=some fn→fr.kind=.normal→LeavesM P fn tmps R ds u w →
  ∃ e w' fr',R e w'∧Comes P (lone fr cs w) (lone fr' cs w') e∧fr'.fn=fr.fn∧fr'.leaving P w' e:=by
 intro ds
 induction ds with
 | nil=>exact fun u w fr cs hu hd ht hf hk h=>leaves_steps [] u w fr cs hu hd ht hf hk h
 | cons d ds ih =>
  intro u w fr cs hu hd ht hf hk h
  obtain ⟨hrun,h⟩:=h
  rcases h with ⟨r,w',htar,htake,hrest⟩|⟨fv,cap,f,args,htar,hinv,hcall⟩
  ·have h1:=step_collected (cs:=cs) (hu ▸ hrun) hd htar htake
   obtain ⟨e',w'',fr',hR',hs',hfn',hl'⟩:=ih u w' { fr with defers:=[]++ds } cs hu rfl ht hf hk hrest
   exact ⟨e',w'',fr',hR',Comes.of_steps (.one h1) hs',hfn',hl'⟩
  ·have h1:=step_defer (cs:=cs) (hu ▸ hrun) hd htar hinv
   obtain ⟨e,u',w',frX,hR,hsteps,hkX,hgo⟩:=hcall { fr with defers:=ds } cs hu
   cases e with
   | returned v =>
    have h2:=step_going_returned (c:={ { fr with defers:=ds } with mode:=u' }) (cs:=cs) hkX hgo
    obtain ⟨e',w'',fr',hR',hs',hfn',hl'⟩:=ih (settle u') w' { { { fr with defers:=ds } with mode:=u' } with mode:=settle u' } cs rfl rfl ht hf hk hR
    exact ⟨e',w'',fr',hR',Comes.of_steps (.head h1 (Steps.trans hsteps (.one h2))) hs',hfn',hl'⟩
   | panicked chain =>
    have h2:=step_going_panicked (c:={ { fr with defers:=ds } with mode:=u' }) (cs:=cs) hgo
    obtain ⟨e',w'',fr',hR',hs',hfn',hl'⟩:=ih (raised u' chain) w' { { { fr with defers:=ds } with mode:=u' } with mode:=raised u' chain } cs rfl rfl ht hf hk hR
    exact ⟨e',w'',fr',hR',Comes.of_steps (.head h1 (Steps.trans hsteps (.one h2))) hs',hfn',hl'⟩
   | outgrown=>exact ⟨.outgrown,w',fr,hR,Outgrown.of_steps (.one h1) hsteps,rfl,trivial⟩
def bodyPostMM (P:Program) (fn:Func) (R:Ending→World→Prop):Exit→Act→World→Prop
 | .normal,a,w|.ret,a,w=>LeavesM P fn a.tmps R a.defers .returning w
 | .panic chain,a,w=>LeavesM P fn a.tmps R a.defers (.panicking chain) w
 | _,_,_=>False
theorem calls_of_wpF {P:Program} {f:FuncId} {fn:Func} {c:Code} {args:Array Value} {w:World} {R:Ending→World→Prop}
  (hf:P.funcs[f]?=some fn) (hb:fn.body=some c)
  (h:wpF f P c (bodyPostMM P fn R) { tmps:=args++Array.replicate (fn.ntmps - args.size) undef,defers:=[] } w):Calls P f args w R:=by
 intro cs
 let b:Frame:={ (default:Frame) with fn:=f,kind:=.normal,roundOf:=none }
 have henter:Frame.enter P f args .normal =
   b.atR { tmps:=args++Array.replicate (fn.ntmps - args.size) undef,defers:=[] } [.code c]:=by
  simp [Frame.enter,Frame.atR,hf,hb,b]
 obtain ⟨e,a',w',hq,harr⟩:=h b [] cs rfl rfl
 rw [← henter] at harr
 cases e with
 | normal =>
  obtain ⟨e',w'',fr',hR,hs,hfn,hl⟩:=leaves_stepsM a'.defers .returning w' { b.atR a' [] with mode:=.returning } cs rfl rfl rfl hf rfl hq
  exact ⟨e',w'',fr',hR,Comes.of_steps (Steps.trans (StepsIn.steps harr) (.one (stepR_end rfl))) hs,hfn,hl⟩
 | ret =>
  obtain ⟨todo,hs₀⟩:=harr.1 rfl
  obtain ⟨e',w'',fr',hR,hs,hfn,hl⟩:=leaves_stepsM a'.defers .returning w' { b.atR a' todo with mode:=.returning } cs rfl rfl rfl hf rfl hq
  exact ⟨e',w'',fr',hR,Comes.of_steps (StepsIn.steps hs₀) hs,hfn,hl⟩
 | panic chain =>
  obtain ⟨todo,hs₀⟩:=harr
  obtain ⟨e',w'',fr',hR,hs,hfn,hl⟩:=leaves_stepsM a'.defers (.panicking chain) w' { b.atR a' todo with mode:=.panicking chain } cs rfl rfl rfl hf rfl hq
  exact ⟨e',w'',fr',hR,Comes.of_steps (StepsIn.steps hs₀) hs,hfn,hl⟩
 | exit id=>exact hq.elim
 | goto l=>exact hq.elim
 | outgrown=>exact hq.elim
end Go.Vm

/- Code: what the abstract run says holds of the model's run;but for regions that draw,which are asked for. -/
namespace Go.Vm
open Go.RowKit

def DrawOk (X:Cx):Prop:=∀ (id:Nat) (ops:Array Oper) (e:Env) (A:St) (o:Out),drawD X ops e A=some o→∀ (g:Gh) (w:World) (a:Act),Inv g A w→EnvOk X.n g w e a →
 ∀ ro:Option Nat,∀ Q:Exit→Act→World→Prop,(∀ ex a' w',OutOk X.n g w o ex a' w'→Q ex a' w')→(Code.region id ops true).wpIn (FR ro) 0 X.P Q a w
def BodyOk (ro:Option Nat) (X:Cx) (c:Code) (body:Env→St→Option Out):Prop:=∀ (e:Env) (A:St) (o:Out),body e A=some o→∀ (g:Gh) (w:World) (a:Act),Inv g A w→EnvOk X.n g w e a →
 ∀ Q:Exit→Act→World→Prop,(∀ ex a' w',OutOk X.n g w o ex a' w'→Q ex a' w')→c.wpIn (FR ro) 0 X.P Q a w

theorem repL_range {gh:Gh} {w:World} {e:List D} {vs:List Value} (h:RepL gh w e vs) (f:Nat→D) (hf:∀ (i:Nat) d,e[i]?=some d→f i=d∨f i=.any) :
  RepL gh w ((List.range e.length).map f) vs:=by
 refine RepL.of_get (by simp [h.length]) fun i d v h1 h2=>?_
 rw [List.getElem?_map] at h1
 simp only [Option.map_eq_some_iff] at h1
 obtain ⟨j,hj,rfl⟩:=h1
 have hji:j=i:=by
  have:=(List.getElem?_eq_some_iff.1 hj)
  obtain ⟨h3,h4⟩:=this
  simpa using h4.symm
 subst hji
 have hlt:j<e.length:=by
  have:=(List.getElem?_eq_some_iff.1 hj).1
  simpa using this
 obtain ⟨u,hu,hr⟩:=h.get (List.getElem?_eq_getElem hlt)
 rw [h2] at hu
 cases hu
 rcases hf j _ (List.getElem?_eq_getElem hlt) with h|h
 ·rw [h];exact hr
 ·rw [h];simp [Rep]
theorem EnvOk.expand {n:Nat} {g:Gh} {w:World} {e:Env} {a:Act} (h:EnvOk n g w e a):EnvOk n g w (expand n e) a:=by
 refine ⟨by simp [Vm.expand], ?_,h.df⟩
 have:=repL_range h.t (fun i=>e.t.getD i .any) fun i d hi=>.inl (by simp [List.getD,hi])
 rw [h.len] at this
 exact this
theorem EnvOk.mask {n:Nat} {g:Gh} {w:World} {e:Env} {a:Act} (h:EnvOk n g w e a) (live:Option (List Nat)):EnvOk n g w (mask n live e) a:=by
 unfold Vm.mask
 cases live with
 | none=>exact h
 | some l =>
  refine ⟨by simp, ?_,h.df⟩
  have:=repL_range h.t (fun i=>cond (l.contains i) (e.t.getD i .any) .any) fun i d hi=>by
   cases l.contains i
   ·exact .inr rfl
   ·exact .inl (by simp [List.getD,hi])
  rw [h.len] at this
  exact this
theorem OutOk.atEnd {n:Nat} {g:Gh} {w:World} {o:Out} {ex:Exit} {a':Act} {w':World} {live:Option (List Nat)} (h:OutOk n g w o ex a' w'):OutOk n g w (o.atEnd n live) ex a' w':=by
 obtain ⟨g',E,I,he,hex⟩:=h
 unfold Out.atEnd
 cases live with
 | none=>exact ⟨g',E,I,he,hex⟩
 | some l =>
  cases o with
  | mk oe env st =>
   cases oe with
   | normal=>exact ⟨g',E,I,he.mask (some l),hex⟩
   | exit i=>exact ⟨g',E,I,he,hex⟩
   | ret=>exact ⟨g',E,I,he,hex⟩
   | pan d=>exact ⟨g',E,I,he,hex⟩

theorem step_ok {ro:Option Nat} {X:Cx} {c:Code} {body:Env→St→Option Out} (hb:BodyOk ro X c body) (live:Option (List Nat)) (keep:Bool):BodyOk ro X c (stepD X.n live keep body):=by
 intro e A o h g w a I he Q hQ
 simp only [stepD,Option.bind_eq_some_iff] at h
 obtain ⟨o1,h1,h⟩:=h
 unfold Out.norm at h
 refine hb _ A o1 h1 g w a I he.expand Q fun ex a' w' ⟨g1,E,I1,he1,hex⟩=>?_
 cases hx:o1.ex with
 | normal =>
  rw [hx] at h hex
  simp only at h
  cases keep with
  | true =>
   simp only [cond_true,Option.some.injEq] at h
   subst h
   exact hQ _ _ _ ⟨g1,E,I1,he1.mask live,hex⟩
  | false =>
   simp only [cond_false] at h
   obtain ⟨hk,h⟩:=guardP_eq.1 h
   ·cases h
    obtain ⟨E',I',K⟩:=I.trunc E I1 hk
    have hm:=he1.mask live
    refine hQ _ _ _ ⟨_,E',I',⟨by simp [Env.shut,hm.len], ?_, ?_⟩,by cases ex<;>first|trivial|exact hex.elim⟩
    ·have:=RepL.keep K _ _ hm.t
     rw [← I.len]
     exact this
    ·have:=RepDf.keep K hm.df
     rw [← I.len]
     exact this
 | exit id=>rw [hx] at h hex;simp only [Option.some.injEq] at h;subst h;exact hQ _ _ _ ⟨g1,E,I1,he1,by rw [hx];exact hex⟩
 | ret=>rw [hx] at h hex;simp only [Option.some.injEq] at h;subst h;exact hQ _ _ _ ⟨g1,E,I1,he1,by rw [hx];exact hex⟩
 | pan d=>rw [hx] at h hex;simp only [Option.some.injEq] at h;subst h;exact hQ _ _ _ ⟨g1,E,I1,he1,by rw [hx];exact hex⟩

theorem loop_ok {ro:Option Nat} {X:Cx} {c:Code} {step:Env→St→Option Out} (hb:BodyOk ro X c step) (k:Nat):BodyOk ro X (.loop c) (iterN k step):=by
 intro e A o h g w a I he Q hQ
 refine wpIn_loop_rounds k ?_
 have key:∀ k e A,iterN k step e A=some o→∀ (g:Gh) (w:World) (a:Act),Inv g A w→EnvOk X.n g w e a→(∀ ex a' w',OutOk X.n g w o ex a' w'→Q ex a' w') →
   Code.roundsIn (FR ro) 0 X.P c Q k a w:=by
  intro k
  induction k with
  | zero=>intro e A h;simp [iterN] at h
  | succ k ih =>
   intro e A h g w a I he hQ
   simp only [iterN,Option.bind_eq_some_iff] at h
   obtain ⟨o1,h1,h⟩:=h
   refine hb e A o1 h1 g w a I he _ fun ex a1 w1 ⟨g1,E,I1,he1,hex⟩=>?_
   cases hx:o1.ex with
   | normal =>
    rw [hx] at h hex
    cases ex<;>simp only [ExOk] at hex
    exact ih o1.env o1.st h g1 w1 a1 I1 he1 fun ex a' w' ho=>hQ _ _ _ (ho.ext E)
   | exit id =>
    rw [hx] at h hex
    simp only [Option.some.injEq] at h
    subst h
    cases ex<;>simp only [ExOk] at hex
    exact hQ _ _ _ ⟨g1,E,I1,he1,by rw [hx];exact hex⟩
   | ret =>
    rw [hx] at h hex
    simp only [Option.some.injEq] at h
    subst h
    cases ex<;>simp only [ExOk] at hex
    exact hQ _ _ _ ⟨g1,E,I1,he1,by rw [hx];trivial⟩
   | pan d =>
    rw [hx] at h hex
    simp only [Option.some.injEq] at h
    subst h
    cases ex<;>simp only [ExOk] at hex
    exact hQ _ _ _ ⟨g1,E,I1,he1,by rw [hx];exact hex⟩
 exact key k e A h g w a I he hQ

theorem plainOp_at {o:Oper} (h:plainOp o=true) (ro:Option Nat):PlainAt ro o:=.inr fun c hc=>by
 unfold plainOp at h
 rw [hc] at h
 cases h
theorem plain_ops {ro:Option Nat} {id:Nat} {ops:Array Oper} {draw:Bool} (h:ro=none∨plainC (.region id ops draw)=true):PlainOps ro ops.toList:=by
 intro o ho
 rcases h with rfl|h
 ·exact .inl rfl
 ·simp only [plainC] at h
  exact plainOp_at (Array.all_eq_true'.1 h o (by simpa using ho)) ro
def ItOk (it:(Env→St→Option Out)→Env→St→Option Out):Prop:=∀ step e A o,it step e A=some o→∃ k,iterN k step e A=some o

theorem plain_noRf:∀ c:Code,plainC c=true→noRf c=true:=by
 intro c
 induction c<;>simp_all [plainC,noRf]
theorem code_sim (X:Cx) (hc:CallOk X.P X.call) (hi:ItOk X.it) (hd:DrawOk X) (ro:Option Nat):∀ c:Code,noRf c=true→(ro=none∨plainC c=true)→BodyOk ro X c (codeD X c):=by
 intro c
 induction c with
 | skip =>
  intro hnr hpl e A o h g w a I he Q hQ
  simp only [codeD,Option.some.injEq] at h
  subst h
  exact wpIn_skip (hQ _ _ _ ⟨g,Ext.refl _ _,I,he,trivial⟩)
 | label l =>
  intro hnr hpl e A o h g w a I he Q hQ
  simp only [codeD,Option.some.injEq] at h
  subst h
  exact wpIn_label (hQ _ _ _ ⟨g,Ext.refl _ _,I,he,trivial⟩)
 | exit id =>
  intro hnr hpl e A o h g w a I he Q hQ
  simp only [codeD,Option.some.injEq] at h
  subst h
  exact wpIn_exit (hQ _ _ _ ⟨g,Ext.refl _ _,I,he,rfl⟩)
 | ret =>
  intro hnr hpl e A o h g w a I he Q hQ
  simp only [codeD,Option.some.injEq] at h
  subst h
  exact wpIn_ret (hQ _ _ _ ⟨g,Ext.refl _ _,I,he,trivial⟩)
 | region id ops draw =>
  intro hnr hpl e A o h g w a I he Q hQ
  simp only [codeD] at h
  cases draw with
  | false=>exact wpIn_region_list (ops_sim X hc ops X.n ro ops.toList e A o (plain_ops hpl) h g w a I he Q hQ)
  | true=>exact hd id ops e A o h g w a I he ro Q hQ
 | seq x y ihx ihy =>
  intro hnr hpl e A o h g w a I he Q hQ
  simp only [codeD,Option.bind_eq_some_iff] at h
  obtain ⟨o1,h1,h⟩:=h
  have hpx:ro=none∨plainC x=true:=hpl.imp id fun h=>by simp only [plainC,Bool.and_eq_true] at h;exact h.1
  have hpy:ro=none∨plainC y=true:=hpl.imp id fun h=>by simp only [plainC,Bool.and_eq_true] at h;exact h.2
  refine wpIn_seq (ihx (by simp only [noRf,Bool.and_eq_true] at hnr;exact hnr.1) hpx e A o1 h1 g w a I he _ fun ex a' w' ⟨g1,E,I1,he1,hex⟩=>?_)
  unfold Out.seq at h
  cases hx:o1.ex with
  | normal =>
   rw [hx] at h hex
   cases ex<;>simp only [ExOk] at hex
   exact ihy (by simp only [noRf,Bool.and_eq_true] at hnr;exact hnr.2) hpy _ _ o h g1 w' a' I1 he1.expand Q fun ex a2 w2 ho=>hQ _ _ _ (ho.ext E)
  | exit id =>
   rw [hx] at h hex
   simp only [Option.some.injEq] at h
   subst h
   cases ex<;>simp only [ExOk] at hex
   exact hQ _ _ _ ⟨g1,E,I1,he1,by simpa [ExOk] using hex⟩
  | ret =>
   rw [hx] at h hex
   simp only [Option.some.injEq] at h
   subst h
   cases ex<;>simp only [ExOk] at hex
   exact hQ _ _ _ ⟨g1,E,I1,he1,trivial⟩
  | pan d =>
   rw [hx] at h hex
   simp only [Option.some.injEq] at h
   subst h
   cases ex<;>simp only [ExOk] at hex
   exact hQ _ _ _ ⟨g1,E,I1,he1,hex⟩
 | cond c x y ihx ihy =>
  intro hnr hpl e A o h g w a I he Q hQ
  simp only [codeD,Option.bind_eq_some_iff] at h
  obtain ⟨t,ht,h⟩:=h
  simp only [Option.map_eq_some_iff] at h
  obtain ⟨o1,h,rfl⟩:=h
  have hv:=bool?_rep ht (rep_eval he.t c)
  refine wpIn_cond hv ?_
  cases t
  ·exact ihy (by simp only [noRf,Bool.and_eq_true] at hnr;exact hnr.2) (hpl.imp id fun h=>by simp only [plainC,Bool.and_eq_true] at h;exact h.2) e A o1 h g w a I he Q fun ex a' w' ho=>hQ ex a' w' ho.atEnd
  ·exact ihx (by simp only [noRf,Bool.and_eq_true] at hnr;exact hnr.1) (hpl.imp id fun h=>by simp only [plainC,Bool.and_eq_true] at h;exact h.1) e A o1 h g w a I he Q fun ex a' w' ho=>hQ ex a' w' ho.atEnd
 | block id c ih =>
  intro hnr hpl e A o h g w a I he Q hQ
  simp only [codeD,Option.map_eq_some_iff] at h
  obtain ⟨o1,h1,rfl⟩:=h
  refine wpIn_block (ih hnr hpl e A o1 h1 g w a I he _ fun ex a' w' ⟨g1,E,I1,he1,hex⟩=>?_)
  unfold Out.block at hQ
  cases hx:o1.ex with
  | normal =>
   rw [hx] at hQ hex
   cases ex<;>simp only [ExOk] at hex
   exact hQ _ _ _ ⟨g1,E,I1,he1,by rw [hx];trivial⟩
  | exit i =>
   rw [hx] at hQ hex
   cases ex<;>simp only [ExOk] at hex
   rename_i j
   subst hex
   simp only [Exit.inBlock]
   split
   ·rename_i e
    exact hQ _ _ _ ⟨g1,E,I1,he1,by simp [e,ExOk]⟩
   ·rename_i e
    exact hQ _ _ _ ⟨g1,E,I1,he1,by simp [e,ExOk]⟩
  | ret =>
   rw [hx] at hQ hex
   cases ex<;>simp only [ExOk] at hex
   exact hQ _ _ _ ⟨g1,E,I1,he1,by rw [hx];trivial⟩
  | pan d =>
   rw [hx] at hQ hex
   cases ex<;>simp only [ExOk] at hex
   exact hQ _ _ _ ⟨g1,E,I1,he1,by rw [hx];exact hex⟩
 | loop c ih =>
  intro hnr hpl e A o h g w a I he Q hQ
  simp only [codeD] at h
  obtain ⟨k,hk⟩:=hi _ _ _ _ h
  exact loop_ok (step_ok (ih hnr hpl) _ _) k _ A o hk g w a I (he.mask _) Q hQ
 | rangeFunc f ps x y=>intro h;simp [noRf] at h
 | scope c=>intro _ _ e A o h;simp [codeD] at h
 | goto l=>intro _ _ e A o h;simp [codeD] at h
 | refuse s=>intro _ _ e A o h;simp [codeD] at h
end Go.Vm
