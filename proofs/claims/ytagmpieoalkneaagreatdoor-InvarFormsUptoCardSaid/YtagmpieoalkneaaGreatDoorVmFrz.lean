/- VmCode2, VmFrz in one text. -/
import Derived.Test.YtagmpieoalkneaaGreatDoorVmCode
import Derived.Test.YtagmpieoalkneaaGreatDoorVmPure
set_option linter.all false
/- Loops over functions: what the abstract run says holds of the model's run;their rounds. -/
namespace Go.Vm
open Go.RowKit

theorem Inv.drop {g:Gh} {A:St} {w:World} (I:Inv g A w) {k l:Nat} (hk:k<g.len) (hm:g.m k=.obj l) (o:Obj) :
  ∃ g',Ext g w g' (w.putObj l o)∧Inv g' (A.set k .dead) (w.putObj l o):=by
 obtain ⟨E1,I1⟩:=I.bind_set k hk .none .dead trivial (.inr (.inl ⟨by rw [hm];exact fun h=>(by cases h),rfl⟩)) fun b off h=>h.elim
 have h1:∀ j,j<g.len→∀ off,¬ (upd g.m k Bind.none j).owns l off:=by
  intro j hj off h
  by_cases e:j=k
  ·subst e;simp only [upd_same] at h;exact h.elim
  ·rw [show upd g.m k Bind.none j=g.m j from upd_ne _ _ e] at h
   exact e (I.sep j k l off hj hk h (by rw [hm];rfl))
 have h2:∀ off,¬ g.stab l off:=fun off h=>I.own k l off hk (by rw [hm];rfl) h
 obtain ⟨E2,I2⟩:=I1.putFree l o h1 h2
 exact ⟨_,E1.trans E2,I2⟩
theorem obj_le {x y:Nat} (h:BindLe (.obj x) (.obj y)):x=y:=by
 rcases h with h|⟨_,h⟩|⟨r,n,r',n',h,_⟩<;>cases h
 rfl
theorem slot_obj {g:Gh} {A:St} {w:World} (I:Inv g A w) {k:Nat} {f:FuncId} {t:List D} {rf:Code} {st:RSt} (h:A[k]?=some (.loop f t rf st)) :
  ∃ l r,k<g.len∧g.m k=.obj l∧w.heap[l]?=some (.loop r)∧r.fn=f∧RepL g w t r.tmps.toList∧(∃ g0,rf=.rangeFunc g0 r.params r.assign r.body)∧StOk st r:=by
 have hk:k<g.len:=I.len ▸ (List.getElem?_eq_some_iff.1 h).1
 have hs:=I.slot k _ h
 cases hm:g.m k<;>rw [hm] at hs<;>first|exact hs.elim|skip
 rename_i l
 obtain ⟨r,h1,h2,h3,h4,h5⟩:=hs
 exact ⟨l,r,hk,rfl,h1,h2,h3,h4,h5⟩
theorem slot_dfb {g:Gh} {A:St} {w:World} (I:Inv g A w) {k:Nat} (h:A[k]?=some .dfb):∃ l,k<g.len∧g.m k=.obj l∧w.heap[l]?=some (.deferred (some [])):=by
 have hk:k<g.len:=I.len ▸ (List.getElem?_eq_some_iff.1 h).1
 have hs:=I.slot k _ h
 cases hm:g.m k<;>rw [hm] at hs<;>first|exact hs.elim|skip
 rename_i l
 exact ⟨l,hk,rfl,hs⟩

def BodyOkF (X:Cx) (c:Code) (body:Env→St→Option Out):Prop:=∀ (e:Env) (A:St) (o:Out),body e A=some o→∀ (g:Gh) (w:World) (a:Act),Inv g A w→EnvOk X.n g w e a →
 ∀ Q:Exit→Act→World→Prop,(∀ ex a' w',OutOk X.n g w o ex a' w'→Q ex a' w')→wpF X.f X.P c Q a w
theorem BodyOk.toF {X:Cx} {c:Code} {body:Env→St→Option Out} (h:BodyOk none X c body):BodyOkF X c body :=
 fun e A o ho g w a I he Q hQ=>wpF_of_wpIn (h e A o ho g w a I he Q hQ)

theorem step_okF {X:Cx} {c:Code} {body:Env→St→Option Out} (hb:BodyOkF X c body) (live:Option (List Nat)) (keep:Bool):BodyOkF X c (stepD X.n live keep body):=by
 intro e A o h g w a I he Q hQ
 simp only [stepD,Option.bind_eq_some_iff] at h
 obtain ⟨o1,h1,h⟩:=h
 unfold Out.norm at h
 refine hb _ A o1 h1 g w a I he.expand Q fun ex a' w' ⟨g1,E,I1,he1,hex⟩=>?_
 cases hx:o1.ex with
 | normal =>
  rw [hx] at h hex
  simp only at h
  cases keep with
  | true =>
   simp only [cond_true,Option.some.injEq] at h
   subst h
   exact hQ _ _ _ ⟨g1,E,I1,he1.mask live,hex⟩
  | false =>
   simp only [cond_false] at h
   obtain ⟨hk,h⟩:=guardP_eq.1 h
   ·cases h
    obtain ⟨E',I',K⟩:=I.trunc E I1 hk
    have hm:=he1.mask live
    refine hQ _ _ _ ⟨_,E',I',⟨by simp [Env.shut,hm.len], ?_, ?_⟩,by cases ex<;>first|trivial|exact hex.elim⟩
    ·have:=RepL.keep K _ _ hm.t
     rw [← I.len]
     exact this
    ·have:=RepDf.keep K hm.df
     rw [← I.len]
     exact this
 | exit id=>rw [hx] at h hex;simp only [Option.some.injEq] at h;subst h;exact hQ _ _ _ ⟨g1,E,I1,he1,by rw [hx];exact hex⟩
 | ret=>rw [hx] at h hex;simp only [Option.some.injEq] at h;subst h;exact hQ _ _ _ ⟨g1,E,I1,he1,by rw [hx];exact hex⟩
 | pan d=>rw [hx] at h hex;simp only [Option.some.injEq] at h;subst h;exact hQ _ _ _ ⟨g1,E,I1,he1,by rw [hx];exact hex⟩
theorem loop_okF {X:Cx} {c:Code} {step:Env→St→Option Out} (hb:BodyOkF X c step) (k:Nat):BodyOkF X (.loop c) (iterN k step):=by
 intro e A o h g w a I he Q hQ
 refine wpF_loop_rounds k ?_
 have key:∀ k e A,iterN k step e A=some o→∀ (g:Gh) (w:World) (a:Act),Inv g A w→EnvOk X.n g w e a→(∀ ex a' w',OutOk X.n g w o ex a' w'→Q ex a' w') →
   roundsF X.f X.P c Q k a w:=by
  intro k
  induction k with
  | zero=>intro e A h;simp [iterN] at h
  | succ k ih =>
   intro e A h g w a I he hQ
   simp only [iterN,Option.bind_eq_some_iff] at h
   obtain ⟨o1,h1,h⟩:=h
   refine hb e A o1 h1 g w a I he _ fun ex a1 w1 ⟨g1,E,I1,he1,hex⟩=>?_
   cases hx:o1.ex with
   | normal =>
    rw [hx] at h hex
    cases ex<;>simp only [ExOk] at hex
    exact ih o1.env o1.st h g1 w1 a1 I1 he1 fun ex a' w' ho=>hQ _ _ _ (ho.ext E)
   | exit id =>
    rw [hx] at h hex
    simp only [Option.some.injEq] at h
    subst h
    cases ex<;>simp only [ExOk] at hex
    exact hQ _ _ _ ⟨g1,E,I1,he1,by rw [hx];exact hex⟩
   | ret =>
    rw [hx] at h hex
    simp only [Option.some.injEq] at h
    subst h
    cases ex<;>simp only [ExOk] at hex
    exact hQ _ _ _ ⟨g1,E,I1,he1,by rw [hx];trivial⟩
   | pan d =>
    rw [hx] at h hex
    simp only [Option.some.injEq] at h
    subst h
    cases ex<;>simp only [ExOk] at hex
    exact hQ _ _ _ ⟨g1,E,I1,he1,by rw [hx];exact hex⟩
 exact key k e A h g w a I he hQ

theorem fnOk_run {P:Program} {f:FuncId} {fn:Func} (hf:P.funcs[f]?=some fn) (h:fnOk fn=true) (vs:Array Value) (w:World):(callFunc f vs).run P w=.ok (.enter f vs) w:=by
 simp only [fnOk,Bool.and_eq_true,Bool.not_eq_true',Option.isSome_iff_exists] at h
 obtain ⟨h1,c,h2⟩:=h
 have h1' : ¬ fn.name = "runtime.NumGoroutine" := by simpa using h1
 simp [callFunc,hf,h1',h2]

theorem rangeFunc_sim (X:Cx) (hc:CallOk X.P X.call) (g0:Operand) (ps:Array Tmp) (x y:Code):BodyOkF X (.rangeFunc g0 ps x y) (codeD X (.rangeFunc g0 ps x y)):=by
 intro e A o h g w a I he Q hQ
 simp only [codeD] at h
 cases hp:(plainC x && plainC y) with
 | false=>rw [hp] at h;simp at h
 | true =>
  rw [hp] at h
  simp only [cond_true,Option.bind_eq_some_iff] at h
  obtain ⟨r,hr,h⟩:=h
  -- the record
  obtain ⟨g1,E1,I1,m1,l1⟩:=I.alloc_obj (.deferred (some [])) .dfb fun g' E=>World.alloc_heap_new _ _
  have ht:RepL g w (mask X.n (X.h.live (loopId y)) e).t a.tmps.toList:=(he.mask _).t
  obtain ⟨g2,E2,I2,m2,l2⟩:=I1.alloc_obj (.loop { state:=.ready,pending:=none,fn:=X.f,tmps:=a.tmps,params:=ps,assign:=x,body:=y,defers:=w.heap.size })
   (.loop X.f (mask X.n (X.h.live (loopId y)) e).t (.rangeFunc g0 ps x y) .ready) fun g' E=>⟨_,World.alloc_heap_new _ _,rfl,E.repL (E1.repL ht),⟨g0,rfl⟩,rfl,rfl⟩
  have hA:g.len=A.length:=I.len
  have E:=E1.trans E2
  rw [World.size_alloc] at m2
  rw [l1,hA] at m2
  have hlen2:g2.len=A.length+2:=by rw [l2,l1,hA]
  have md:g2.m A.length=.obj w.heap.size:=by
   have h1:A.length<g2.len:=by omega
   have h2:=E2.bind A.length (by rw [l1,hA];omega)
   have hsl:=I2.slot A.length .dfb (by simp)
   rw [← hA,m1] at h2
   rw [← hA] at hsl ⊢
   cases hm:g2.m g.len<;>rw [hm] at hsl h2<;>first|exact hsl.elim|skip
   rw [obj_le h2]
  -- the call
  unfold seqCall at hr
  split at hr
  ·rename_i q first cap hg
   cases hq:(X.P.funcs[q]?).any fnOk with
   | false=>rw [hq] at hr;simp at hr
   | true =>
    rw [hq] at hr
    simp only [cond_true] at hr
    obtain ⟨fn,hfn,hok⟩:∃ fn,X.P.funcs[q]?=some fn∧fnOk fn=true:=by
     cases hfn:X.P.funcs[q]? with
     | none=>rw [hfn] at hq;simp at hq
     | some fn=>rw [hfn] at hq;exact ⟨fn,rfl,by simpa using hq⟩
    have hv:=E.rep (rep_eval he.t g0)
    rw [hg] at hv
    obtain ⟨fs,cs,hv,h1,h2⟩:=repL_fn (d:=.any) hv
    have hy:Rep g2 ((w.alloc (.deferred (some []))).alloc (.loop { state:=.ready,pending:=none,fn:=X.f,tmps:=a.tmps,params:=ps,assign:=x,body:=y,defers:=w.heap.size })) (.yld false (A.length+1)) (.func (.yield (w.heap.size+1)) #[] #[]):=by
     simp only [Rep]
     exact ⟨trivial,by omega,_,rfl,by rw [m2];exact fun h=>(by cases h),fun l' hl'=>by rw [m2] at hl';cases hl';rfl⟩
    have hall:RepL g2 ((w.alloc (.deferred (some []))).alloc (.loop { state:=.ready,pending:=none,fn:=X.f,tmps:=a.tmps,params:=ps,assign:=x,body:=y,defers:=w.heap.size })) (first++[.yld false (A.length+1)]++cap) (fs.toList++[.func (.yield (w.heap.size+1)) #[] #[]]++cs.toList) :=
     (h1.append (by simp only [RepL];exact ⟨_,_,rfl,hy,rfl⟩)).append h2
    have harr:(fs.toList++[Value.func (.yield (w.heap.size+1)) #[] #[]]++cs.toList).toArray=fs++#[.func (.yield (w.heap.size+1)) #[] #[]]++cs:=by
     apply Array.ext';simp
    have hI2:Inv g2 (A++[.dfb,.loop X.f (mask X.n (X.h.live (loopId y)) e).t (.rangeFunc g0 ps x y) .ready]) ((w.alloc (.deferred (some []))).alloc (.loop { state:=.ready,pending:=none,fn:=X.f,tmps:=a.tmps,params:=ps,assign:=x,body:=y,defers:=w.heap.size })):=by
     simpa using I2
    have hs:=(hc _ _ _ _ hr).1 g2 _ _ hI2 hall
    rw [harr] at hs
    have hrun:=fnOk_run hfn hok (fs++#[.func (.yield (w.heap.size+1)) #[] #[]]++cs) ((w.alloc (.deferred (some []))).alloc (.loop { state:=.ready,pending:=none,fn:=X.f,tmps:=a.tmps,params:=ps,assign:=x,body:=y,defers:=w.heap.size }))
    rcases hs with ⟨_,h4⟩|⟨v,w',g',d,h3,_⟩
    ·refine wpF_rangeFunc (run_enterLoop_outer X.f a.tmps ps x y) (d:={ target:=.fn (.func q) cs,args:=fs++#[.func (.yield (w.heap.size+1)) #[] #[]] }) (w₁':=(w.alloc (.deferred (some []))).alloc (.loop { state:=.ready,pending:=none,fn:=X.f,tmps:=a.tmps,params:=ps,assign:=x,body:=y,defers:=w.heap.size })) (w₂:=(w.alloc (.deferred (some []))).alloc (.loop { state:=.ready,pending:=none,fn:=X.f,tmps:=a.tmps,params:=ps,assign:=x,body:=y,defers:=w.heap.size })) (by
      simp [resolve,rangeCall,Deferred.ofValue,hv,show a.eval (.const (.func (.yield (w.heap.size+1)) #[] #[]))=.func (.yield (w.heap.size+1)) #[] #[] from rfl]) (by simpa [invoke] using hrun) (h4.mono fun en w3 ⟨g3,E3,I3,hen⟩=>?_)
     have EE:=E.trans E3
     have mk:∀ (g4:Gh) (w4:World),Ext g3 w3 g4 w4→EnvOk X.n g4 w4 { e with df:=(.yld true A.length,[])::e.df } { a with defers:=[{ target:=.collected w.heap.size,args:=#[] }]++a.defers }:=by
      intro g4 w4 E4
      have he4:=he.ext (EE.trans E4)
      refine ⟨he4.len,he4.t,⟨_,_,rfl, ?_,he4.df⟩⟩
      have hb:=(E3.trans E4).bind A.length (by omega)
      rw [md] at hb
      refine ⟨Nat.lt_of_lt_of_le (by omega) (E3.trans E4).len,_,rfl, ?_,fun r' hr'=>?_⟩
      ·rcases hb with hb|⟨_,hb⟩|⟨_,_,_,_,hb,_⟩
       ·rw [hb];exact fun h=>by cases h
       ·rw [hb];exact fun h=>by cases h
       ·cases hb
      ·rw [hr'] at hb
       exact obj_le hb
     obtain ⟨r1,r2⟩:=r
     cases r1 with
     | pan d =>
      simp only [Res.elim,Option.some.injEq] at h
      subst h
      cases en with
      | returned v=>exact hen.elim
      | outgrown=>exact hen.elim
      | panicked chain =>
       obtain ⟨t,u,rfl,hd⟩:=hen
       exact hQ _ _ _ ⟨g3,EE,I3,mk g3 w3 (Ext.refl _ _),t,u,rfl,hd⟩
     | ret d =>
      simp only [Res.elim] at h
      cases en with
      | panicked chain=>exact hen.elim
      | outgrown=>exact hen.elim
      | returned v =>
       unfold endRec at h
       split at h
       ·rename_i f' t' rf' st hk
        obtain ⟨l,rr,hkl,hm,hheap,_,_,_,hst⟩:=slot_obj I3 hk
        have hl:w.heap.size+1=l:=by
         have hb:=E3.bind (A.length+1) (by omega)
         rw [m2,hm] at hb
         exact obj_le hb
        subst hl
        have fin:rr.state≠.busy→∀ jump,rr.pending=jump→∃ jump' w4,(Instr.endLoop (w.heap.size+1)).run X.P w3=.ok jump' w4∧jump'=jump∧∃ g4,Ext g3 w3 g4 w4∧Inv g4 (r2.set (A.length+1) .dead) w4:=by
         intro hb jump hj
         obtain ⟨g4,E4,I4⟩:=I3.drop hkl hm (.loop { rr with state:=.exhausted })
         exact ⟨_,_,run_endLoop hheap hb,hj,g4,E4,I4⟩
        split at h
        ·cases h
         obtain ⟨jump,w4,h5,rfl,g4,E4,I4⟩:=fin (by rw [hst.1];exact fun h=>by cases h) _ hst.2
         exact ⟨_,w4,h5,hQ _ _ _ ⟨g4,EE.trans E4,I4,mk g4 w4 E4,trivial⟩⟩
        ·cases h
         obtain ⟨jump,w4,h5,rfl,g4,E4,I4⟩:=fin (by rw [hst.1];exact fun h=>by cases h) _ hst.2
         exact ⟨_,w4,h5,wpF_of_wpIn (wpIn_ret (hQ _ _ _ ⟨g4,EE.trans E4,I4,mk g4 w4 E4,trivial⟩))⟩
        ·cases h
         obtain ⟨jump,w4,h5,rfl,g4,E4,I4⟩:=fin (by rw [hst.1];exact fun h=>by cases h) _ hst.2
         exact ⟨_,w4,h5,wpF_of_wpIn (wpIn_exit (hQ _ _ _ ⟨g4,EE.trans E4,I4,mk g4 w4 E4,rfl⟩))⟩
        ·cases h
       ·cases h
    ·rw [hrun] at h3
     cases h3
  ·cases hr

theorem code_simF (X:Cx) (hc:CallOk X.P X.call) (hi:ItOk X.it) (hd:DrawOk X):∀ c:Code,BodyOkF X c (codeD X c):=by
 intro c
 induction c with
 | seq x y ihx ihy =>
  intro e A o h g w a I he Q hQ
  simp only [codeD,Option.bind_eq_some_iff] at h
  obtain ⟨o1,h1,h⟩:=h
  refine wpF_seq (ihx e A o1 h1 g w a I he _ fun ex a' w' ⟨g1,E,I1,he1,hex⟩=>?_)
  unfold Out.seq at h
  cases hx:o1.ex with
  | normal =>
   rw [hx] at h hex
   cases ex<;>simp only [ExOk] at hex
   exact ihy _ _ o h g1 w' a' I1 he1.expand Q fun ex a2 w2 ho=>hQ _ _ _ (ho.ext E)
  | exit id =>
   rw [hx] at h hex
   simp only [Option.some.injEq] at h
   subst h
   cases ex<;>simp only [ExOk] at hex
   exact hQ _ _ _ ⟨g1,E,I1,he1,by simpa [ExOk] using hex⟩
  | ret =>
   rw [hx] at h hex
   simp only [Option.some.injEq] at h
   subst h
   cases ex<;>simp only [ExOk] at hex
   exact hQ _ _ _ ⟨g1,E,I1,he1,trivial⟩
  | pan d =>
   rw [hx] at h hex
   simp only [Option.some.injEq] at h
   subst h
   cases ex<;>simp only [ExOk] at hex
   exact hQ _ _ _ ⟨g1,E,I1,he1,hex⟩
 | cond c x y ihx ihy =>
  intro e A o h g w a I he Q hQ
  simp only [codeD,Option.bind_eq_some_iff,Option.map_eq_some_iff] at h
  obtain ⟨t,ht,o1,h,rfl⟩:=h
  have hv:=bool?_rep ht (rep_eval he.t c)
  refine wpF_cond hv ?_
  cases t
  ·exact ihy e A o1 h g w a I he Q fun ex a' w' ho=>hQ ex a' w' ho.atEnd
  ·exact ihx e A o1 h g w a I he Q fun ex a' w' ho=>hQ ex a' w' ho.atEnd
 | block id c ih =>
  intro e A o h g w a I he Q hQ
  simp only [codeD,Option.map_eq_some_iff] at h
  obtain ⟨o1,h1,rfl⟩:=h
  refine wpF_block (ih e A o1 h1 g w a I he _ fun ex a' w' ⟨g1,E,I1,he1,hex⟩=>?_)
  unfold Out.block at hQ
  cases hx:o1.ex with
  | normal =>
   rw [hx] at hQ hex
   cases ex<;>simp only [ExOk] at hex
   exact hQ _ _ _ ⟨g1,E,I1,he1,by rw [hx];trivial⟩
  | exit i =>
   rw [hx] at hQ hex
   cases ex<;>simp only [ExOk] at hex
   rename_i j
   subst hex
   simp only [Exit.inBlock]
   split
   ·rename_i e
    exact hQ _ _ _ ⟨g1,E,I1,he1,by simp [e,ExOk]⟩
   ·rename_i e
    exact hQ _ _ _ ⟨g1,E,I1,he1,by simp [e,ExOk]⟩
  | ret =>
   rw [hx] at hQ hex
   cases ex<;>simp only [ExOk] at hex
   exact hQ _ _ _ ⟨g1,E,I1,he1,by rw [hx];trivial⟩
  | pan d =>
   rw [hx] at hQ hex
   cases ex<;>simp only [ExOk] at hex
   exact hQ _ _ _ ⟨g1,E,I1,he1,by rw [hx];exact hex⟩
 | loop c ih =>
  intro e A o h g w a I he Q hQ
  simp only [codeD] at h
  obtain ⟨k,hk⟩:=hi _ _ _ _ h
  exact loop_okF (step_okF ih _ _) k _ A o hk g w a I (he.mask _) Q hQ
 | rangeFunc f ps x y=>exact rangeFunc_sim X hc f ps x y
 | skip=>exact (code_sim X hc hi hd none .skip rfl (.inl rfl)).toF
 | label l=>exact (code_sim X hc hi hd none (.label l) rfl (.inl rfl)).toF
 | exit id=>exact (code_sim X hc hi hd none (.exit id) rfl (.inl rfl)).toF
 | ret=>exact (code_sim X hc hi hd none .ret rfl (.inl rfl)).toF
 | region id ops draw=>exact (code_sim X hc hi hd none (.region id ops draw) rfl (.inl rfl)).toF
 | scope c=>intro e A o h;simp [codeD] at h
 | goto l=>intro e A o h;simp [codeD] at h
 | refuse s=>intro e A o h;simp [codeD] at h

theorem setParams_sim {g:Gh} {w:World}:∀ (ps:List Tmp) (ds:List D) (vs:List Value) (t:List D) (tv:Array Value),RepL g w ds vs→RepL g w t tv.toList →
  RepL g w (setParams ps ds t) ((ps.zip vs).foldl (fun tmps (p:Tmp×Value)=>tmps.setIfInBounds p.1 p.2) tv).toList
 | [],ds,vs,t,tv,h,ht=>by simpa [setParams] using ht
 | p::ps,[],vs,t,tv,h,ht=>by
  simp only [RepL] at h
  subst h
  simpa [setParams] using ht
 | p::ps,d::ds,vs,t,tv,h,ht=>by
  simp only [RepL] at h
  obtain ⟨v,r,rfl,h1,h2⟩:=h
  simp only [setParams,List.zip_cons_cons,List.foldl_cons]
  exact setParams_sim ps ds r _ _ h2 (by rw [Array.toList_setIfInBounds];exact ht.set h1 p)
theorem setParams_length:∀ (ps:List Tmp) (ds t:List D),(setParams ps ds t).length=t.length
 | [],ds,t=>by simp [setParams]
 | p::ps,[],t=>by simp [setParams]
 | p::ps,d::ds,t=>by simp [setParams,setParams_length ps ds]
theorem round_sim (X:Cx) (hc:CallOk X.P X.call) (hi:ItOk X.it) (hd:DrawOk X) {fn:Func} (hf:X.P.funcs[X.f]?=some fn) {k:Nat} {as:List D} {A:St} {r:Res×St} {t:List D} {rf:Code}
  (hk:A[k]?=some (.loop X.f t rf .ready)) (h:roundC X k t rf as A=some r):RSound X.P k as A r:=by
 intro g w vs l I has hml
 obtain ⟨l',rr,hkl,hm,hheap,hfn,ht,⟨g0,hrf⟩,hst⟩:=slot_obj I hk
 rw [hml] at hm
 cases hm
 subst hrf
 unfold roundC at h
 simp only at h
 cases hg:(plainC rr.assign && plainC rr.body && (as.length == rr.params.size && t.length == X.n)) with
 | false=>rw [hg] at h;simp at h
 | true =>
  rw [hg] at h
  simp only [Bool.and_eq_true,beq_iff_eq] at hg
  obtain ⟨⟨hpx,hpy⟩,hlen,htn⟩:=hg
  simp only [cond_true,Option.bind_eq_some_iff] at h
  obtain ⟨o1,ho1,h⟩:=h
  have hsz:vs.toArray.size=rr.params.size:=by rw [← hlen,has.length];simp
  have hy:=run_yield (P:=X.P) hheap hsz
  rw [hfn] at hy
  refine ⟨_,_,_,_,hy,round_of_wpIn hf ?_⟩
  have he0:EnvOk X.n g w ⟨setParams rr.params.toList as t,[]⟩ { tmps:=(rr.params.zip vs.toArray).foldl (fun tmps (t,a)=>tmps.setIfInBounds t a) rr.tmps,defers:=[] }:=by
   refine ⟨by rw [setParams_length];exact htn, ?_,rfl⟩
   have:=setParams_sim rr.params.toList as vs t rr.tmps has ht
   have e:(rr.params.zip vs.toArray).foldl (fun tmps (t,a)=>tmps.setIfInBounds t a) rr.tmps=(rr.params.toList.zip vs).foldl (fun tmps (p:Tmp×Value)=>tmps.setIfInBounds p.1 p.2) rr.tmps:=by
    rw [← Array.foldl_toList]
    simp
   rw [e]
   exact this
  refine code_sim X hc hi hd (some l) rr.assign (plain_noRf _ hpx) (.inr hpx) _ A o1 ho1 g w _ I he0 _ fun ex a1 w1 ⟨g1,E1,I1,he1,hex⟩=>?_
  cases hx:o1.ex with
  | exit id=>rw [hx] at h;cases h
  | ret=>rw [hx] at h;cases h
  | pan d=>rw [hx] at h;cases h
  | normal =>
   rw [hx] at h hex
   cases ex<;>simp only [ExOk] at hex
   simp only [Option.bind_eq_some_iff] at h
   obtain ⟨A2,hA2,o,ho,h⟩:=h
   unfold recBusy at hA2
   split at hA2
   ·rename_i f1 t1 rf1 hk1
    cases hA2
    obtain ⟨l1,r1,hkl1,hm1,hheap1,hfn1,ht1,hrf1,hst1⟩:=slot_obj I1 hk1
    have hl1:l=l1:=by
     have:=E1.bind k hkl
     rw [hml,hm1] at this
     exact obj_le this
    subst hl1
    have hready:r1.state=.ready:=hst1.1
    ·obtain ⟨E2,I2⟩:=I1.putOwn hkl1 hm1 (.loop { r1 with state:=.busy }) (.loop f1 t1 rf1 .busy) fun E=>⟨_,World.putObj_heap_same (Array.getElem?_eq_some_iff.1 hheap1).1,hfn1,E.repL ht1,hrf1,rfl⟩
     refine ⟨_,run_beginRound hheap1 hready, ?_⟩
     refine code_sim X hc hi hd (some l) rr.body (plain_noRf _ hpy) (.inr hpy) _ _ o ho g1 _ _ I2 (he1.ext E2).expand _ fun ex a2 w2 ⟨g3,E3,I3,he3,hex3⟩=>?_
     have E13:=(E1.trans E2).trans E3
     have fin:∀ (st:RSt) (jump:Option Code) (b:Bool),recSet k st o.st=(recSet k st o.st)→b=jump.isNone→(∀ r:Loop,StOk st { r with state:=if jump.isNone then .ready else .done,pending:=jump }) →
       (recSet k st o.st).map (fun A'=>((.ret (.bool b):Res),closeSt A A'))=some r →
       ∃ v w3,(Instr.endRound l jump).run X.P w2=.ok v w3∧∃ g',Ext g w g' w3∧Inv g' r.2 w3∧EndOk g' w3 r.1 (.returned v):=by
      intro st jump b _ hb hst' hr
      simp only [Option.map_eq_some_iff] at hr
      obtain ⟨A3,hA3,rfl⟩:=hr
      unfold recSet at hA3
      split at hA3
      ·rename_i f2 t2 rf2 st2 hk2
       cases hA3
       obtain ⟨l2,r2,hkl2,hm2,hheap2,hfn2,ht2,hrf2,hst2⟩:=slot_obj I3 hk2
       have hl2:l=l2:=by
        have:=E13.bind k hkl
        rw [hml,hm2] at this
        exact obj_le this
       subst hl2
       obtain ⟨E4,I4⟩:=I3.putOwn hkl2 hm2 (.loop { r2 with state:=if jump.isNone then .ready else .done,pending:=jump }) (.loop f2 t2 rf2 st) fun E=>⟨_,World.putObj_heap_same (Array.getElem?_eq_some_iff.1 hheap2).1,hfn2,E.repL ht2,hrf2,hst' r2⟩
       obtain ⟨E5,I5,_⟩:=I.closeSt (E13.trans E4) I4
       exact ⟨_,_,run_endRound jump hheap2,_,E5,I5,by simp only [EndOk,Rep];rw [hb]⟩
      ·cases hA3
     unfold roundEnd at h
     cases hx3:o.ex with
     | normal =>
      rw [hx3] at h hex3
      cases ex<;>simp only [ExOk] at hex3
      exact fin .ready none true rfl rfl (fun r=>⟨rfl,rfl⟩) h
     | ret =>
      rw [hx3] at h hex3
      cases ex<;>simp only [ExOk] at hex3
      exact fin .ret (some .ret) false rfl rfl (fun r=>⟨rfl,rfl⟩) h
     | exit id =>
      rw [hx3] at h hex3
      cases ex<;>simp only [ExOk] at hex3
      subst hex3
      exact fin (.exit id) (some (.exit id)) false rfl rfl (fun r=>⟨rfl,rfl⟩) h
     | pan d =>
      rw [hx3] at h hex3
      cases ex<;>simp only [ExOk] at hex3
      obtain ⟨t,u,rfl,hdr⟩:=hex3
      cases hde:o.env.df.isEmpty with
      | false=>rw [hde] at h;simp at h
      | true =>
       rw [hde] at h
       simp only [cond_true,Option.some.injEq] at h
       subst h
       have hdf:=he3.df
       have h0:o.env.df=[]:=by simpa using hde
       rw [h0] at hdf
       obtain ⟨E5,I5,K⟩:=I.closeSt E13 I3
       refine ⟨hdf,_,E5,I5,t,u,rfl, ?_⟩
       have:=Rep.keep K _ _ hdr
       rw [← I.len]
       exact this
   ·cases hA2
end Go.Vm

/- What stands in variables that are at an end becomes values. -/
namespace Go.Vm
open Go.RowKit
theorem cells_one {v:Value} (h:v.oneCell'=true):v.cells=#[v]:=by
 cases v<;>first|rfl|simp [Value.oneCell'] at h
theorem mapVL_eq (n:Nat) (G:Nat→Nat→Nat→Nat→D) (ds:List D):D.mapVL n G ds=ds.map (D.mapV n G):=by
 induction ds with
 | nil=>rfl
 | cons d ds ih=>simp [D.mapVL,ih]
@[simp] theorem mapVL_length (n:Nat) (G:Nat→Nat→Nat→Nat→D) (ds:List D):(D.mapVL n G ds).length=ds.length:=by simp [mapVL_eq]
theorem rowV_length (n:Nat):∀ (c:Nat) (cs:List D),(rowV n c cs).length=c
 | 0,_=>rfl
 | c+1,cs=>by simp [rowV,rowV_length n c]
section
variable {g g':Gh} {w w':World} (K:Keeps g w g' w') {G:Nat→Nat→Nat→Nat→D} (hG:∀ k off es len v,g'.len≤k→Rep g w (.vsl k off es len) v→Rep g' w' (G k off es len) v)
include K hG
mutual
theorem Rep.mapV:∀ (d:D) (v:Value),Rep g w d v→Rep g' w' (d.mapV g'.len G) v
 | .any,_,_=>by simp [D.mapV,Rep]
 | .bool _,_,h=>by simpa [D.mapV,Rep] using h
 | .int _ _,_,h=>by simpa [D.mapV,Rep] using h
 | .str _,_,h=>by simpa [D.mapV,Rep] using h
 | .val _,_,h=>by simpa [D.mapV,Rep] using h
 | .agg cs,v,h=>by
  simp only [D.mapV,Rep] at h ⊢
  obtain ⟨vs,rfl,h⟩:=h
  exact ⟨vs,rfl,RepL.mapV cs _ h⟩
 | .tup ds,v,h=>by
  simp only [D.mapV,Rep] at h ⊢
  obtain ⟨vs,rfl,h⟩:=h
  exact ⟨vs,rfl,RepL.mapV ds _ h⟩
 | .sl o es ds,v,h=>by
  simp only [D.mapV,Rep] at h ⊢
  obtain ⟨a,cap,rfl,hc,ho,hr⟩:=h
  refine ⟨a,cap,by simp,by simpa using hc,by rw [mapVL_length];exact ho.keep K,fun hne=>?_⟩
  obtain ⟨b,off,rfl,hrow⟩:=hr (by rintro rfl;exact hne (by simp [D.mapVL]))
  exact ⟨b,off,rfl,RepRow.mapV b es ds off hrow⟩
 | .vsl k off es len,v,h=>by
  simp only [D.mapV,Rep] at h ⊢
  split
  ·rename_i hk
   obtain ⟨h0,a,cap,rfl,hc,hw,ha⟩:=h
   simp only [Rep]
   obtain ⟨hle,hne⟩:=(K.bind k h0 hk).ne hw
   refine ⟨hk,a,cap,rfl,hc,hne,fun b o n x hm=>?_⟩
   rcases hle with hb|hb|⟨r1,n1,r2,n2,h1,h2,h3⟩
   ·exact ha b o n x (hb ▸ hm)
   ·rw [hb.2] at hm;cases hm
   ·rw [h2] at hm;cases hm
  ·rename_i hk
   exact hG k off es len v (by omega) (by simp only [Rep];exact h)
 | .ref k off,v,h=>by
  simp only [D.mapV,Rep] at h ⊢
  split
  ·rename_i hk
   obtain ⟨h0,a,rfl,hw,ha⟩:=h
   simp only [Rep]
   obtain ⟨hle,hne⟩:=(K.bind k h0 hk).ne hw
   refine ⟨hk,a,rfl,hne,fun b o n x hm=>?_⟩
   rcases hle with hb|hb|⟨r1,n1,r2,n2,h1,h2,h3⟩
   ·exact ha b o n x (hb ▸ hm)
   ·rw [hb.2] at hm;cases hm
   ·rw [h2] at hm;cases hm
  ·simp [Rep]
 | .peek cs,v,h=>by
  simp only [D.mapV,Rep] at h ⊢
  obtain ⟨b,off,rfl,h⟩:=h
  exact ⟨b,off,rfl,RepAt.mapV b cs off h⟩
 | .fn f first cap,v,h=>by
  simp only [D.mapV,Rep] at h ⊢
  obtain ⟨fs,cs,rfl,h1,h2⟩:=h
  exact ⟨fs,cs,rfl,RepL.mapV first _ h1,RepL.mapV cap _ h2⟩
 | .iface t d,v,h=>by
  simp only [D.mapV,Rep] at h ⊢
  obtain ⟨u,rfl,h⟩:=h
  exact ⟨u,rfl,Rep.mapV d u h⟩
 | .yld m k,v,h=>by
  simp only [D.mapV,Rep] at h ⊢
  split
  ·rename_i hk
   obtain ⟨hm,h0,l,rfl,hw,ha⟩:=h
   simp only [Rep]
   obtain ⟨hle,hne⟩:=(K.bind k h0 hk).ne hw
   refine ⟨hm,hk,l,rfl,hne,fun l' hm=>?_⟩
   rcases hle with hb|hb|⟨r1,n1,r2,n2,h1,h2,h3⟩
   ·exact ha l' (hb ▸ hm)
   ·rw [hb.2] at hm;cases hm
   ·rw [h2] at hm;cases hm
  ·simp [Rep]
 | .mp k,v,h=>by
  simp only [D.mapV,Rep] at h ⊢
  split
  ·rename_i hk
   obtain ⟨h0,l,rfl,hw,ha⟩:=h
   simp only [Rep]
   obtain ⟨hle,hne⟩:=(K.bind k h0 hk).ne hw
   refine ⟨hk,l,rfl,hne,fun l' hm=>?_⟩
   rcases hle with hb|hb|⟨r1,n1,r2,n2,h1,h2,h3⟩
   ·exact ha l' (hb ▸ hm)
   ·rw [hb.2] at hm;cases hm
   ·rw [h2] at hm;cases hm
  ·simp [Rep]
theorem RepL.mapV:∀ (ds:List D) (vs:List Value),RepL g w ds vs→RepL g' w' (D.mapVL g'.len G ds) vs
 | [],vs,h=>by simpa [D.mapVL,RepL] using h
 | d::ds,vs,h=>by
  simp only [D.mapVL,RepL] at h ⊢
  obtain ⟨v,r,rfl,h1,h2⟩:=h
  exact ⟨v,r,rfl,Rep.mapV d v h1,RepL.mapV ds r h2⟩
theorem RepAt.mapV:∀ (b:Nat) (ds:List D) (off:Nat),RepAt g w b ds off→RepAt g' w' b (D.mapVL g'.len G ds) off
 | b,[],off,h=>by simp [D.mapVL,RepAt]
 | b,d::ds,off,h=>by
  simp only [D.mapVL,RepAt] at h ⊢
  obtain ⟨⟨v,h1,h2,h3⟩,h4⟩:=h
  exact ⟨⟨v,K.stab _ _ h1,(K.cell _ _ h1).trans h2,Rep.mapV d v h3⟩,RepAt.mapV b ds (off+1) h4⟩
theorem RepRow.mapV:∀ (b es:Nat) (ds:List D) (off:Nat),RepRow g w b es ds off→RepRow g' w' b es (D.mapVL g'.len G ds) off
 | b,es,[],off,h=>by simp [D.mapVL,RepRow]
 | b,es,d::ds,off,h=>by
  simp only [D.mapVL,RepRow] at h ⊢
  obtain ⟨⟨v,h1,h2,h3⟩,h4⟩:=h
  exact ⟨⟨v,Rep.mapV d v h1,h2,fun j hj=>⟨K.stab _ _ (h3 j hj).1,(K.cell _ _ (h3 j hj).1).trans (h3 j hj).2⟩⟩,RepRow.mapV b es ds (off+es) h4⟩
end
end
def frzG (g:Gh) (n:Nat):Gh:={ g with len:=n,S:=fun b off=>g.S b off∨∃ k,n≤k∧k<g.len∧(∃ b0 o m x,g.m k=.var b0 o m x)∧(g.m k).owns b off }
theorem frz_keeps (g:Gh) (n:Nat) (w:World):Keeps g w (frzG g n) w :=
 ⟨fun b off h=>h.elim .inl fun h=>.inr (.inl h),fun _ _ _=>rfl,fun _ _ _=>.inl (BindLe.refl _)⟩
theorem rows_frz {g:Gh} {A:St} {w:World} (I:Inv g A w) {n:Nat} {G:Nat→Nat→Nat→Nat→D} (hG:∀ k off es len v,n≤k→Rep g w (.vsl k off es len) v→Rep (frzG g n) w (G k off es len) v)
  {k:Nat} (hn:n≤k) (hk:k<g.len) {b o m x:Nat} (hm:g.m k=.var b o m x) {es:Nat}:∀ (len off:Nat) (cs:List D),off+len * es≤m→cs.length=m →
   (∀ (j:Nat) d,cs[j]?=some d→∃ v,w.cell? ⟨b,o+j,none⟩=some v∧w.frozen? ⟨b,o+j,none⟩=false∧v.oneCell'=true∧Rep g w d v) →
   RepRow (frzG g n) w b es (D.mapVL n G (rowV es len (cs.drop off))) (o+off)
 | 0,off,cs,_,_,_=>by simp [rowV,D.mapVL,RepRow]
 | len+1,off,cs,hl,hcl,hc=>by
  have K:=frz_keeps g n w
  have hst:∀ j,j<m→(frzG g n).stab b (o+j):=fun j hj=>.inr (.inr ⟨k,hn,hk,⟨b,o,m,x,hm⟩,by rw [hm];exact ⟨rfl,by omega⟩⟩)
  have hl':off+es+len * es≤m:=by rw [Nat.add_mul] at hl;omega
  have ih:=rows_frz I hG hn hk hm len (off+es) cs hl' hcl hc
  simp only [rowV,D.mapVL,RepRow]
  rw [List.drop_drop]
  refine ⟨?_,by rw [Nat.add_assoc];exact ih⟩
  by_cases h1:es=1
  ·subst h1
   have hlt:off<cs.length:=by omega
   obtain ⟨v,v1,v2,v3,v4⟩:=hc off cs[off] (List.getElem?_eq_getElem hlt)
   have e:(cs.drop off).getD 0 .any=cs[off]:=by simp [List.getD,List.getElem?_drop,List.getElem?_eq_getElem hlt]
   simp only [beq_self_eq_true,cond_true,e]
   have hcv:=cells_one v3
   refine ⟨v,Rep.mapV K hG _ _ v4,⟨by rw [hcv];rfl,fun u hu=>?_⟩,fun j hj=>?_⟩
   ·rw [hcv] at hu
    have:u=v:=by simpa using hu
    rw [this];exact v3
   ·have:j=0:=by omega
    subst this
    exact ⟨hst off (by omega),by rw [hcv];exact v1⟩
  ·have hb:(es == 1)=false:=by simp [h1]
   rw [hb]
   simp only [cond_false]
   have hle:off+es≤cs.length:=by omega
   have hall:∀ (j:Nat) d,((cs.drop off).take es)[j]?=some d→∃ v,w.cell? ⟨b,o+off+j,none⟩=some v∧v.oneCell'=true∧Rep g w d v:=by
    intro j d hj
    rw [List.getElem?_take] at hj
    split at hj
    ·rw [List.getElem?_drop] at hj
     obtain ⟨v,v1,_,v3,v4⟩:=hc (off+j) d hj
     exact ⟨v,by rw [Nat.add_assoc];exact v1,v3,v4⟩
    ·cases hj
   have key:∀ (l:List D) (p:Nat),(∀ (j:Nat) d,l[j]?=some d→∃ v,w.cell? ⟨b,p+j,none⟩=some v∧v.oneCell'=true∧Rep g w d v) →
     ∃ vs:List Value,RepL g w l vs∧(∀ v ∈ vs,v.oneCell'=true)∧∀ (j:Nat) v,vs[j]?=some v→w.cell? ⟨b,p+j,none⟩=some v:=by
    intro l
    induction l with
    | nil=>exact fun p _=>⟨[],by simp [RepL],by simp,by simp⟩
    | cons d l ihl =>
     intro p h
     obtain ⟨v,v1,v2,v3⟩:=h 0 d rfl
     obtain ⟨vs,q1,q2,q3⟩:=ihl (p+1) fun j d hj=>by
      have:=h (j+1) d (by simpa using hj)
      rwa [show p+(j+1)=p+1+j by omega] at this
     refine ⟨v::vs,by simp only [RepL];exact ⟨v,vs,rfl,v3,q1⟩,fun u hu=>?_,fun j u hj=>?_⟩
     ·rcases List.mem_cons.1 hu with rfl|hu
      ·exact v2
      ·exact q2 u hu
     ·cases j with
      | zero=>simp at hj;subst hj;exact v1
      | succ j =>
       have:=q3 j u (by simpa using hj)
       rwa [show p+(j+1)=p+1+j by omega]
   obtain ⟨vs,q1,q2,q3⟩:=key _ (o+off) hall
   have hvl:vs.length=es:=by rw [← q1.length];simp;omega
   refine ⟨.agg vs.toArray, ?_,⟨by simp [Value.cells,hvl],fun u hu=>q2 u (by simpa [Value.cells] using hu)⟩,fun j hj=>⟨?_, ?_⟩⟩
   ·simp only [D.mapV,Rep]
    exact ⟨_,rfl,RepL.mapV K hG _ _ q1⟩
   ·rw [Nat.add_assoc];exact hst (off+j) (by omega)
   ·have:j<vs.length:=by omega
    rw [q3 j vs[j] (List.getElem?_eq_getElem this)]
    simp [Value.cells,this]
theorem frzV_rep {g:Gh} {A:St} {w:World} (I:Inv g A w) {n:Nat}:∀ (f k off es len:Nat) (v:Value),n≤k→Rep g w (.vsl k off es len) v→Rep (frzG g n) w (frzV n A f k off es len) v
 | 0,k,off,es,len,v,hn,h=>by simp [frzV,Rep]
 | f+1,k,off,es,len,v,hn,h=>by
  unfold frzV
  split
  ·rename_i cs hA
   simp only [Rep] at h
   obtain ⟨hk,a,cap,rfl,hc,hnw,hv⟩:=h
   have hsl:=I.slot k _ hA
   cases hm:g.m k with
   | none=>rw [hm] at hsl;exact hsl.elim
   | wait=>exact absurd hm hnw
   | tok r q=>rw [hm] at hsl;exact hsl.elim
   | obj l=>rw [hm] at hsl;exact hsl.elim
   | var b o m x =>
    rw [hm] at hsl
    obtain ⟨⟨rfl,_⟩,hcs⟩:=hsl
    obtain ⟨v1,v2,_⟩:=hv b o _ x hm
    have hrow:=rows_frz I (G:=frzV n A f) (fun k off es len v=>frzV_rep I f k off es len v) hn hk hm len off cs v1 rfl hcs
    simp only [Rep]
    refine ⟨a,cap,by rw [mapVL_length,rowV_length],by rw [mapVL_length,rowV_length];exact hc.1,trivial,fun hne=>?_⟩
    have hl:0<len:=by
     rcases Nat.eq_zero_or_pos len with rfl|h
     ·exact absurd (by simp [rowV,D.mapVL]) hne
     ·exact h
    rcases v2 with rfl|⟨v2,_⟩
    ·exact ⟨b,o+off,rfl,hrow⟩
    ·omega
  ·simp [Rep]
theorem frz_rep {g:Gh} {A:St} {w:World} (I:Inv g A w) (n:Nat) {d:D} {v:Value} (h:Rep g w d v):Rep (frzG g n) w (d.frz n A) v :=
 Rep.mapV (frz_keeps g n w) (fun k off es len v hk=>frzV_rep I 5 k off es len v hk) d v h
theorem Inv.frz {g g1:Gh} {A A1:St} {w w1:World} (I:Inv g A w) (E:Ext g w g1 w1) (I1:Inv g1 A1 w1) (hk:Kept A A1) :
  Ext g w (frzG g1 g.len) w1∧Inv (frzG g1 g.len) (A1.take A.length) w1:=by
 obtain ⟨E',I',K⟩:=I.trunc E I1 hk
 obtain ⟨E2,I2⟩:=I'.stab_add (fun b off=>∃ k,g.len≤k∧k<g1.len∧(∃ b0 o m x,g1.m k=.var b0 o m x)∧(g1.m k).owns b off) fun b off ⟨k,h1,h2,_,h3⟩ =>
  ⟨I1.lt h2 h3,fun j hj ho=>by have:=I1.sep j k b off (Nat.lt_of_lt_of_le hj E.len) h2 ho h3;have hj':j<g.len:=hj;omega⟩
 exact ⟨E'.trans E2,I2⟩
end Go.Vm
