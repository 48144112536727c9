/- Regions that draw their order: the theorem. -/
import Derived.Test.YtagmpieoalkneaaGreatDoorVmDraw
set_option linter.all false
namespace Go.Vm
open Go.RowKit

theorem all_zipIdx {α:Type} {xs:Array α} {f:α×Nat→Bool} (h:xs.toList.zipIdx.all f=true) {i:Nat} {x:α} (hx:xs[i]?=some x):f (x,i)=true:=by
 refine List.all_eq_true.1 h (x,i) ?_
 rw [List.mem_zipIdx_iff_getElem?]
 simpa using hx
theorem ancAll_lt {ops:Array Oper} (hb:∀ (i:Nat) o,ops[i]?=some o→∀ k ∈ bindsOn o,k<i) (m:Nat):∀ j ∈ (ancAll ops).getD m [],j<m:=by
 have:=ancAll_closed (ops:=ops) (L:=fun j=>decide (j<m)) (fun i hi o ho k hk=>by
  have:=hb i o ho k hk
  simp only [decide_eq_true_eq] at hi ⊢
  omega) m fun o ho k hk=>by simpa using hb m o ho k hk
 intro j hj
 simpa using this j hj
theorem env_upto {ops:Array Oper} {T:List TStep} {e:List D} (i:Nat):∀ n,envLm ops T e (fun m=>decide (m<i)) n=envLm ops T e (fun _=>true) (min n i)
 | 0=>by simp [envLm]
 | n+1=>by
  simp only [envLm,env_upto i n]
  by_cases h:n<i
  ·have h1:min (n+1) i=n+1:=by omega
   have h2:min n i=n:=by omega
   rw [h1,h2]
   simp [h,envLm]
  ·have h1:min (n+1) i=i:=by omega
   have h2:min n i=i:=by omega
   simp [h,h1,h2]
def cntm (L:Nat→Bool):Nat→Nat
 | 0=>0
 | m+1=>cntm L m+cond (L m) 0 1
theorem cnt_zero {L:Nat→Bool}:∀ {n},cntm L n=0→∀ i,i<n→L i=true
 | 0,_,i,h=>by omega
 | n+1,h,i,hi=>by
  simp only [cntm] at h
  by_cases e:i=n
  ·subst e
   cases hL:L i
   ·rw [hL] at h;simp at h
   ·rfl
  ·exact cnt_zero (n:=n) (by omega) i (by omega)
theorem cnt_more {L L':Nat→Bool} {i:Nat} (hi:L i=false) (hi':L' i=true) (hne:∀ j,j≠i→L' j=L j):∀ n,i<n→cntm L' n+1=cntm L n
 | 0,h=>by omega
 | n+1,h=>by
  simp only [cntm]
  by_cases e:n=i
  ·subst e
   have:∀ q,q≤n→cntm L' q=cntm L q:=by
    intro q
    induction q with
    | zero=>intro _;rfl
    | succ q ih=>intro hq;simp only [cntm,ih (by omega),hne q (by omega)]
   rw [this n (Nat.le_refl _),hi,hi']
   simp
  ·have:=cnt_more hi hi' hne n (by omega)
   rw [hne n e]
   omega
theorem least_loose {L:Nat→Bool}:∀ n,(∀ i,i<n→L i=true)∨∃ i,i<n∧L i=false∧∀ k,k<i→L k=true
 | 0=>.inl fun i h=>by omega
 | n+1=>by
  rcases least_loose (L:=L) n with h|⟨i,h1,h2,h3⟩
  ·cases hL:L n
   ·exact .inr ⟨n,by omega,hL,h⟩
   ·exact .inl fun i hi=>by
     by_cases e:i=n
     ·subst e;exact hL
     ·exact h i (by omega)
  ·exact .inr ⟨i,by omega,h2,h3⟩
theorem loadD_congr {P:Program} {t:TypeId} {ad:D} {A1 A2:St} (h:∀ k off,ad=.ref k off→A1[k]?=A2[k]?):loadD P t ad A1=loadD P t ad A2:=by
 unfold loadD loadO
 cases ad<;>try rfl
 rename_i k off
 simp only [h k off rfl]
theorem foldEnv_append (a b:List (Oper×TStep)) (e:List D):foldEnv (a++b) e=foldEnv b (foldEnv a e):=by
 induction a generalizing e with
 | nil=>rfl
 | cons x a ih=>obtain ⟨o,s⟩:=x;simp only [List.cons_append,foldEnv,ih]
theorem env_full {ops:Array Oper} {T:List TStep} {e:List D} {L:Nat→Bool} (hT:T.length=ops.size) (hL:∀ i,i<ops.size→L i=true):∀ m,m≤ops.size→envLm ops T e L m=foldEnv ((ops.toList.zip T).take m) e
 | 0,_=>rfl
 | m+1,h=>by
  have h1:m<ops.size:=by omega
  have h2:m<T.length:=by omega
  have hz:m<(ops.toList.zip T).length:=by simp;omega
  rw [List.take_succ_eq_append_getElem hz,foldEnv_append,← env_full hT hL m (by omega)]
  simp only [envLm,hL m h1,cond_true,List.getElem_zip,foldEnv,Array.getElem_toList]
  simp [h1,tv,h2]
theorem forget_get:∀ (os:List Oper) (e:List D) (t:Nat),(∀ o ∈ os,o.dst≠some t)→(forgetEnv os e)[t]?=e[t]?
 | [],e,t,_=>rfl
 | o::os,e,t,h=>by
  simp only [forgetEnv]
  rw [forget_get os _ t fun o' ho=>h o' (by simp [ho]),put_get _ _ _ _ (h o (by simp))]
theorem forget_length:∀ (os:List Oper) (e:List D),(forgetEnv os e).length=e.length
 | [],e=>rfl
 | o::os,e=>by
  simp only [forgetEnv]
  rw [forget_length]
  unfold putD
  split<;>simp
theorem forget_any:∀ (os:List Oper) (e:List D) (t:Nat),(∃ o ∈ os,o.dst=some t)→∀ d,(forgetEnv os e)[t]?=some d→d=.any
 | [],e,t,h,d,hd=>by obtain ⟨o,ho,_⟩:=h;simp at ho
 | o::os,e,t,h,d,hd=>by
  simp only [forgetEnv] at hd
  by_cases hex:∃ o ∈ os,o.dst=some t
  ·exact forget_any os _ t hex d hd
  ·rw [forget_get os _ t fun o' ho e=>hex ⟨o',ho,e⟩] at hd
   obtain ⟨o',ho',he⟩:=h
   rcases List.mem_cons.1 ho' with rfl|h
   ·rw [he] at hd
    simp only [putD,List.getElem?_set] at hd
    simp only [if_true] at hd
    split at hd
    ·cases hd;rfl
    ·cases hd
   ·exact absurd ⟨o',h,he⟩ hex
theorem env_none {ops:Array Oper} {T:List TStep} {e:List D} {L:Nat→Bool} {t:Nat} (h:∀ o ∈ ops.toList,o.dst≠some t):∀ m,(envLm ops T e L m)[t]?=e[t]?
 | 0=>rfl
 | m+1=>by
  simp only [envLm]
  cases L m
  ·exact env_none h m
  ·simp only [cond_true]
   rw [put_get,env_none h m]
   cases ho:ops[m]? with
   | none=>simp
   | some o=>simpa using h o (by simpa using Array.mem_of_getElem? ho)
theorem allSame_mem {T:List TStep}:∀ {ps:List (Nat×Nat)},allSame T ps→∀ p ∈ ps,sameAt T p
 | [],_,p,hp=>by simp at hp
 | q::ps,h,p,hp=>by
  rcases List.mem_cons.1 hp with rfl|hp
  ·exact h.1
  ·exact allSame_mem h.2 p hp
theorem rep_noRoom {g:Gh} {w:World} {o:Own} {es:Nat} {ds:List D} {v:Value} (h:Rep g w (.sl o es ds) v):Rep g w (.sl .sh es ds) v:=by
 unfold Rep at h ⊢
 obtain ⟨a,cap,h1,h2,h3,h4⟩:=h
 exact ⟨a,cap,h1,h2,trivial,h4⟩
theorem Kept_append' (A B:St):Kept A (A++B) :=
 ⟨by simp,fun k hk=>.inl (List.getElem?_append_left hk)⟩
theorem append_any {n b:Nat} {x y d:D} {A1:St} (h:appendO n b x y []=some (d,A1)) (A:St) :
  ∃ o0 es0 ds new o B,x=.sl o0 es0 ds∧appendNew n y=some new∧(∃ o1,d=.sl o1 n (ds++new))∧appendO n b x y A=some (.sl o n (ds++new),A++B):=by
 have hnv:∀ k off es len,x≠.vsl k off es len:=by
  rintro k off es len rfl
  simp [appendO,appendVO] at h
 have e:∀ A,appendO n b x y A=appendS n b x y A:=by
  intro A
  unfold appendO
  split
  ·exact absurd rfl (hnv _ _ _ _)
  ·rfl
 rw [e] at h ⊢
 unfold appendS at h ⊢
 simp only [Option.bind_eq_some_iff] at h
 obtain ⟨new,hn,h⟩:=h
 rw [hn]
 simp only [Option.bind_some]
 cases x<;>simp only [reduceCtorEq] at h
 rename_i o0 es0 ds
 split at h
 ·rename_i hc
  simp only
  simp only [if_pos hc]
  cases o0 with
  | full =>
   simp only at h ⊢
   split at h
   ·rename_i he
    simp only [Option.some.injEq,Prod.mk.injEq] at h
    have:new=[]:=by simpa using he
    subst this
    exact ⟨.full,es0,ds,[],.full,[],rfl,rfl,⟨_,by simpa using h.1.symm⟩,by simp⟩
   ·rename_i he
    simp only [Option.some.injEq,Prod.mk.injEq] at h
    exact ⟨.full,es0,ds,new,.own A.length 0,_,rfl,rfl,⟨_,h.1.symm⟩,by rw [if_neg he]⟩
  | sh =>
   simp only at h ⊢
   split at h
   ·rename_i he
    simp only [Option.some.injEq,Prod.mk.injEq] at h
    have:new=[]:=by simpa using he
    subst this
    exact ⟨.sh,es0,ds,[],.sh,[],rfl,rfl,⟨_,by simpa using h.1.symm⟩,by simp⟩
   ·cases h
  | own c s=>simp at h
 ·cases h
theorem val_sim {X:Cx} {o:Oper} {e:List D} {a:Act} {d:D} (hk:drK X o.op=.val) (hp:opK X.P o.op≠.pure) (h:valD X.P e o.op=some d) {gh:Gh} {w:World} {A:St} (I:Inv gh A w)
  (he:RepL gh w e a.tmps.toList):∃ nx w' g',(execOp a.eval o).run X.P w=.ok nx w'∧NextOk g' w' d nx∧Ext gh w g' w'∧Inv g' A w':=by
 have hw:∀ d',worldD X.P e o.op A=some (d',A)→d'=d→∃ nx w' g',(execOp a.eval o).run X.P w=.ok nx w'∧NextOk g' w' d nx∧Ext gh w g' w'∧Inv g' A w':=by
  intro d' h1 h2
  subst h2
  exact world_sim h1 I he
 unfold valD at h
 unfold drK at hk
 cases hopk:opK X.P o.op<;>rw [hopk] at hk hp h<;>simp only [reduceCtorEq] at hk
 ·exact absurd rfl hp
 ·cases hop:o.op<;>rw [hop] at hk h hw<;>(try (simp only [reduceCtorEq] at hk;done))
  case alloc t=>cases hva:X.h.waitAl<;>simp [hva] at hk
  case buildSlice t n ps =>
   simp only [worldD,Option.map_eq_some_iff,Prod.mk.injEq] at h
   obtain ⟨_,⟨d',h,rfl⟩,h3⟩:=h
   refine hw d (by simp only [worldD,Option.map_eq_some_iff,Prod.mk.injEq];exact ⟨d',h,h3,trivial⟩) rfl
  case convert s t x =>
   simp only [worldD,Option.map_eq_some_iff,Prod.mk.injEq] at h
   obtain ⟨_,⟨d',h,rfl⟩,h3⟩:=h
   refine hw d (by simp only [worldD,Option.map_eq_some_iff,Prod.mk.injEq];exact ⟨d',h,h3,trivial⟩) rfl
  case call c =>
   have hcall:∃ args ts,c=⟨.builtin .append,args,ts⟩:=by
    obtain ⟨callee,args,ts⟩:=c
    cases callee<;>(try (simp only [reduceCtorEq] at hk;done))
    rename_i b
    cases b<;>(try (simp only [reduceCtorEq] at hk;done))
    exact ⟨args,ts,rfl⟩
   obtain ⟨args,ts,rfl⟩:=hcall
   simp only [Option.bind_eq_some_iff] at h
   obtain ⟨⟨d0,A1⟩,h,hs⟩:=h
   simp only [worldD] at h
   split at h
   ·rename_i x y hxy
    have ev:=fun x=>rep_eval he x
    have hxr:=ev x
    have hyr:=ev y
    unfold appendD at h
    split at h
    ·rename_i t u hts
     simp only [Option.bind_eq_some_iff] at h
     obtain ⟨r,hr,b,hb,z,hz,h⟩:=h
     split at h
     ·rename_i hc
      obtain ⟨o0,es0,ds,new,o1,B,hx,hn,⟨o2,hd0⟩,hA⟩:=append_any h A
      subst hd0
      simp only [shV,Option.some.injEq] at hs
      subst hs
      have hwd:worldD X.P e o.op A=some (.sl o1 r.2.1 (ds++new),A++B):=by
       rw [hop]
       simp only [worldD,hxy]
       simp only [hts,appendD,hr,hb,hz,Option.bind_some,if_pos hc,hA]
      obtain ⟨nx,w',g',h1,h2,h3,h4⟩:=world_sim hwd I he
      obtain ⟨E',I',K⟩:=Inv.trunc I h3 h4 ((Kept_append' A B))
      rw [List.take_left] at I'
      refine ⟨nx,w',_,h1, ?_,E',I'⟩
      cases nx<;>simp only [NextOk] at h2
      case skip=>cases h2
      case value zv =>
       have h5:=Rep.keep K _ zv h2
       have hsx:D.shutL gh.len ds=ds:=by
        rw [hx] at hxr
        have:=Rep.shut_id (Nat.le_refl gh.len) _ _ hxr
        simp only [D.shut,D.sl.injEq] at this
        exact this.2.2
       have hsy:D.shutL gh.len new=new:=by
        unfold appendNew at hn
        split at hn
        ·rename_i o3 es3 ds3 hy3
         split at hn
         ·cases hn
          rw [hy3] at hyr
          have:=Rep.shut_id (Nat.le_refl gh.len) _ _ hyr
          simp only [D.shut,D.sl.injEq] at this
          exact this.2.2
         ·cases hn
        ·split at hn
         ·cases hn
          rw [shutL_eq]
          unfold strBytes
          rw [List.map_map]
          rfl
         ·cases hn
        ·cases hn
       have h6:(D.sl o1 r.2.1 (ds++new)).shut gh.len=.sl (o1.shut gh.len) r.2.1 (ds++new):=by
        simp only [D.shut,D.sl.injEq,true_and]
        rw [shutL_eq,List.map_append,← shutL_eq,← shutL_eq,hsx,hsy]
       simp only [NextOk]
       have h7:Rep { g' with len:=gh.len } w' ((D.sl o1 r.2.1 (ds++new)).shut gh.len) zv:=h5
       rw [h6] at h7
       exact rep_noRoom h7
     ·cases h
    ·cases h
   ·cases h
theorem Keeps.rep {g g':Gh} {w w':World} (K:Keeps g w g' w') (hl:g'.len=g.len) {d:D} {v:Value} (h:Rep g w d v):Rep g' w' d v:=by
 have:=Rep.keep K d v h
 rwa [hl,Rep.shut_id (Nat.le_refl _) d v h] at this
theorem Keeps.repL {g g':Gh} {w w':World} (K:Keeps g w g' w') (hl:g'.len=g.len) {ds:List D} {vs:List Value} (h:RepL g w ds vs):RepL g' w' ds vs:=by
 have:=RepL.keep K ds vs h
 rwa [hl,RepL.shut_id (Nat.le_refl _) ds vs h] at this
theorem Keeps.df1 {g g':Gh} {w w':World} (K:Keeps g w g' w') (hl:g'.len=g.len) {x:D×List D} {d:Deferred} (h:RepDf1 g w x d):RepDf1 g' w' x d:=by
 unfold RepDf1 at h
 split at h
 ·rename_i hx
  unfold RepDf1
  rw [hx]
  trivial
 ·rename_i k hk
  obtain ⟨h0,r,h1,hw,ha⟩:=h
  unfold RepDf1
  rw [hk]
  obtain ⟨hle,hne⟩:=(K.bind k h0 (hl ▸ h0)).ne hw
  refine ⟨hl ▸ h0,r,h1,hne,fun l' hm=>?_⟩
  rcases hle with hb|hb|⟨r1,n1,r2,n2,h1,h2,h3⟩
  ·exact ha l' (hb ▸ hm)
  ·rw [hb.2] at hm;cases hm
  ·rw [h2] at hm;cases hm
 ·obtain ⟨fn,first,cap,vs,h1,h2,h3,h4⟩:=h
  exact RepDf1.of ⟨fn,first,cap,vs,K.rep hl h1,K.repL hl h2,h3,h4⟩
theorem Keeps.df {g g':Gh} {w w':World} (K:Keeps g w g' w') (hl:g'.len=g.len):∀ {xs:List (D×List D)} {ds:List Deferred},RepDf g w xs ds→RepDf g' w' xs ds
 | [],_,h=>h
 | x::r,ds,h=>by
  obtain ⟨d,ds',rfl,h1,h5⟩:=h
  exact ⟨d,ds',rfl,K.df1 hl h1,K.df hl h5⟩
theorem Keeps.env {n:Nat} {g g':Gh} {w w':World} (K:Keeps g w g' w') (hl:g'.len=g.len) {e:Env} {a:Act} (h:EnvOk n g w e a):EnvOk n g' w' e a:=⟨h.len,K.repL hl h.t,K.df hl h.df⟩
theorem ofCell_shut (w:World) (v:Value) (n:Nat):(ofCell v).shut n=ofCell v :=
 Rep.shut_id (g:=⟨0,0,fun _=>.none,fun _ _=>False⟩) (w:=w) (Nat.zero_le n) _ _ (rep_ofCell _ _ v)
theorem zeroCs_some {P:Program} {op:Op} {cs:List D} (h:zeroCs P op=some cs):∃ t z,op=.alloc t∧tyZero P t=some z∧cs=z.cells.toList.map ofCell∧allCells cs=true:=by
 cases op<;>simp only [zeroCs,reduceCtorEq] at h
 simp only [Option.bind_eq_some_iff] at h
 obtain ⟨z,hz,h⟩:=h
 split at h
 ·rename_i ha
  simp only [Option.some.injEq] at h
  subst h
  exact ⟨_,z,rfl,hz,rfl,ha⟩
 ·cases h
theorem zeroCs_shut {P:Program} {op:Op} {cs:List D} (h:zeroCs P op=some cs) (w:World) (n:Nat):D.shutL n cs=cs:=by
 obtain ⟨t,z,_,_,rfl,_⟩:=zeroCs_some h
 rw [shutL_eq,List.map_map]
 refine List.map_congr_left fun v _=>?_
 exact ofCell_shut w v n
theorem BindLe.wait {y:Bind} (h:BindLe .wait y):y=.wait:=by
 rcases h with h|h|⟨_,_,_,_,h,_⟩
 ·exact h
 ·exact absurd rfl h.1
 ·cases h
theorem Inv.alloc_wait {g:Gh} {A:St} {w:World} (I:Inv g A w) (k:Nat) (hk:k<g.len) (hw:g.m k=.wait) (c:Array Value) (elem:TypeId) (cs:List D) (hA:A[k]?=some (.cells cs))
  (hr:RepL g w cs c.toList) (h1:∀ v ∈ c,v.oneCell'=true) :
  let w':=w.alloc (.cells c elem)
  let g':Gh:={ g with m:=upd g.m k (.var w.heap.size 0 cs.length 0) }
  Keeps g w g' w'∧Below g.base w w'∧(∀ b off,g.S b off→w'.cell? ⟨b,off,none⟩=w.cell? ⟨b,off,none⟩)∧Inv g' A w'∧Rep g' w' (.ref k 0) (.pointer (some ⟨w.heap.size,0,none⟩)):=by
 intro w' g'
 obtain ⟨E1,I1,ha,hb⟩:=I.alloc c elem (0,0)
 have hm:∀ j,j≠k→g'.m j=g.m j:=fun j hj=>upd_ne _ _ hj
 have hmk:g'.m k=.var w.heap.size 0 cs.length 0:=by simp [g']
 have K1:Keeps g w' g' w':=⟨fun _ _ h=>h,fun _ _ _=>rfl,fun j _ _=>by
  by_cases e:j=k
  ·subst e;exact .inr ⟨hw,_,_,_,_,hmk⟩
  ·rw [hm j e];exact .inl (BindLe.refl _)⟩
 have K:Keeps g w g' w':=⟨fun _ _ h=>h,E1.keeps.cell,K1.bind⟩
 have hown:∀ j b off,j<g.len→(g'.m j).owns b off→(j≠k∧(g.m j).owns b off)∨(j=k∧b=w.heap.size):=by
  intro j b off hj ho
  by_cases e:j=k
  ·subst e;rw [hmk] at ho;exact .inr ⟨rfl,ho.1⟩
  ·exact .inl ⟨e,hm j e ▸ ho⟩
 refine ⟨K,E1.below,E1.cellS,⟨I1.len,I1.base,fun j s hj=>?_,fun j j' b off hj hj' o1 o2=>?_,fun j b off hj ho=>?_,I1.old⟩, ?_⟩
 ·by_cases e:j=k
  ·subst e
   rw [hA] at hj
   cases hj
   rw [hmk]
   refine ⟨⟨rfl,fun _=>⟨by simp [w'],fun off=>by simp [w']⟩,fun i i1 i2=>by omega⟩,fun i d hd=>?_⟩
   obtain ⟨v,hv,hrep⟩:=hr.get hd
   have hv':c[i]?=some v:=by simpa using hv
   exact ⟨v,by simpa [w'] using hv',by simp [w'],h1 v (Array.mem_of_getElem? hv'),K.rep rfl hrep⟩
  ·have hs:=I1.slot j s hj
   rw [hm j e]
   cases hb:g.m j with
   | none=>rw [hb] at hs;cases s<;>exact hs
   | wait=>rw [hb] at hs;cases s<;>exact hs
   | var b o n x =>
    rw [hb] at hs
    cases s with
    | tok n=>exact hs.elim
    | dead=>exact hs.elim
    | loop f t rf st=>exact hs.elim
    | map kt ks vs bs c=>exact hs.elim
    | dfb=>exact hs.elim
    | cells cs' =>
     obtain ⟨⟨rfl,hxc⟩,hs⟩:=hs
     refine ⟨⟨rfl,hxc⟩,fun i d hd=>?_⟩
     obtain ⟨v,q1,q2,q3,q4⟩:=hs i d hd
     exact ⟨v,q1,q2,q3,K1.rep rfl q4⟩
   | tok r n=>rw [hb] at hs;cases s<;>exact hs
   | obj l =>
    rw [hb] at hs
    cases s with
    | dfb=>exact hs
    | loop f t rf st =>
     obtain ⟨r,q1,q2,q3,q4⟩:=hs
     exact ⟨r,q1,q2,K1.repL rfl q3,q4⟩
    | map kt ks vs bs c =>
     obtain ⟨r,q1,q2,q3,q4⟩:=hs
     exact ⟨r,q1,q2,K1.repL rfl q3,q4⟩
    | _=>exact hs.elim
 ·rcases hown j b off hj o1 with ⟨a1,a2⟩|⟨a1,a2⟩<;>rcases hown j' b off hj' o2 with ⟨c1,c2⟩|⟨c1,c2⟩
  ·exact I.sep j j' b off hj hj' a2 c2
  ·subst c2;exact (hb j off hj a2).elim
  ·subst a2;exact (hb j' off hj' c2).elim
  ·omega
 ·rcases hown j b off hj ho with ⟨a1,a2⟩|⟨a1,a2⟩
  ·exact I.own j b off hj a2
  ·subst a2;exact ha off
 ·simp only [Rep]
  refine ⟨hk,_,rfl,(by rw [hmk];exact fun e=>(by cases e)),fun b o n x h=>?_⟩
  rw [hmk] at h
  cases h
  rfl
theorem wait_sim {P:Program} {o:Oper} {q:Nat} {A:St} {gh:Gh} {w:World} (cs:List D) (hz:zeroCs P o.op=some cs) (hA:A[q]?=some (.cells cs)) (I:Inv gh A w) (hq:gh.m q=.wait) (a:Act) :
  ∃ w' g',(execOp a.eval o).run P w=.ok (.value (.pointer (some ⟨w.heap.size,0,none⟩))) w'∧Rep g' w' (.ref q 0) (.pointer (some ⟨w.heap.size,0,none⟩))∧Keeps gh w g' w'∧g'.len=gh.len∧g'.base=gh.base ∧
   (∀ j,j≠q→g'.m j=gh.m j)∧Below gh.base w w'∧g'.S=gh.S∧(∀ b off,gh.S b off→w'.cell? ⟨b,off,none⟩=w.cell? ⟨b,off,none⟩)∧Inv g' A w':=by
 obtain ⟨t,z,hop,htz,rfl,hall⟩:=zeroCs_some hz
 have hz0:RepL gh w (z.cells.toList.map ofCell) z.cells.toList:=by
  have:=RepL.map (g:=gh) (w:=w) ofCell id z.cells.toList fun x _=>rep_ofCell gh w x
  simpa using this
 have hk:q<gh.len:=I.len ▸ (List.getElem?_eq_some_iff.1 hA).1
 obtain ⟨K,b,c,I',R⟩:=I.alloc_wait q hk hq z.cells t _ hA hz0 fun v hv=>oneCell_of hall hz0 v (by simpa using hv)
 exact ⟨_,_,by simp [execOp,hop,Instr.alloc,tyZero_some htz,newVar,newRow],R,K,rfl,rfl,fun j hj=>upd_ne _ _ hj,b,rfl,c,I'⟩
theorem Ext.then_wait {g0 g g':Gh} {w0 w w':World} (E:Ext g0 w0 g w) {q:Nat} (hq:g0.len≤q) (hl:g'.len=g.len) (hb:g'.base=g.base) (hm:∀ j,j≠q→g'.m j=g.m j) (below:Below g.base w w') (hS:g'.S=g.S)
  (hc:∀ b off,g.S b off→w'.cell? ⟨b,off,none⟩=w.cell? ⟨b,off,none⟩):Ext g0 w0 g' w' :=
 ⟨hb.trans E.base,E.below.trans (E.base ▸ below),fun b o h=>by rw [hS];exact E.stabS b o h,fun b o h=>(hc b o (E.stabS b o h)).trans (E.cellS b o h),by rw [hl];exact E.len,fun k hk=>by
  rw [hm k (by omega)];exact E.bind k hk⟩
theorem appH_eq (A H:St):appH A H=A++H:=by
 cases H with
 | nil=>simp [appH]
 | cons s T=>rfl
theorem head_closed {X:Cx} (w:World):∀ {os:List Oper} {H:St},headD X os=some H→∀ s ∈ H,∃ cs,s=.cells cs∧∀ n,D.shutL n cs=cs
 | [],H,h=>by
  simp only [headD,Option.some.injEq] at h
  subst h
  intro s hs;cases hs
 | o::os,H,h=>by
  simp only [headD] at h
  split at h
  ·simp only [Option.bind_eq_some_iff,Option.map_eq_some_iff] at h
   obtain ⟨cs,hcs,T,hT,rfl⟩:=h
   intro s hs
   rcases List.mem_cons.1 hs with rfl|hs
   ·exact ⟨cs,rfl,fun n=>zeroCs_shut hcs w n⟩
   ·exact head_closed w hT s hs
  ·exact head_closed w h
theorem head_inv {w:World}:∀ (H:St),(∀ s ∈ H,∃ cs,s=Slot.cells cs∧∀ n,D.shutL n cs=cs)→∀ {g:Gh} {A:St},Inv g A w→∃ g',Ext g w g' w∧Inv g' (A++H) w∧g'.len=g.len+H.length∧∀ j,g.len≤j→j<g'.len→g'.m j=.wait
 | [],_,g,A,I=>⟨g,Ext.refl _ _,by simpa using I,by simp,fun j h1 h2=>by omega⟩
 | s::H,hc,g,A,I=>by
  obtain ⟨cs,rfl,hcs⟩:=hc s (by simp)
  obtain ⟨E1,I1⟩:=I.bind_new .wait (.cells cs) hcs fun b off h=>h.elim
  obtain ⟨g',E2,I2,hl,hw⟩:=head_inv H (fun s hs=>hc s (by simp [hs])) I1
  refine ⟨g',E1.trans E2,by simpa using I2,by rw [hl];simp;omega,fun j h1 h2=>?_⟩
  by_cases e:j=g.len
  ·subst e
   have:=E2.bind g.len (by simp)
   simp only [upd_same] at this
   exact this.wait
  ·exact hw j (by simp;omega) h2
theorem sq_mono (X:Cx) (ops:Array Oper) (q0:Nat) (i:Nat):sq X ops q0 i≤sq X ops q0 (i+1):=by
 simp only [sq]
 split
 ·unfold nq;split<;>omega
 ·omega
theorem sq_le (X:Cx) (ops:Array Oper) (q0:Nat) {i j:Nat} (h:i≤j):sq X ops q0 i≤sq X ops q0 j:=by
 induction h with
 | refl=>omega
 | step _ ih=>exact Nat.le_trans ih (sq_mono X ops q0 _)
theorem sq_wait {X:Cx} {ops:Array Oper} {q0 i:Nat} {o:Oper} (ho:ops[i]?=some o) (hk:drK X o.op=.wait):sq X ops q0 (i+1)=sq X ops q0 i+1:=by
 simp only [sq,ho,nq,hk]
theorem sq_inj {X:Cx} {ops:Array Oper} {q0 i j:Nat} {o o':Oper} (ho:ops[i]?=some o) (hk:drK X o.op=.wait) (ho':ops[j]?=some o') (hk':drK X o'.op=.wait) (h:i≠j):sq X ops q0 i≠sq X ops q0 j:=by
 rcases Nat.lt_or_gt_of_ne h with h|h
 ·have:=sq_le X ops q0 (show i+1≤j by omega)
  rw [sq_wait ho hk] at this
  omega
 ·have:=sq_le X ops q0 (show j+1≤i by omega)
  rw [sq_wait ho' hk'] at this
  omega
theorem head_len {X:Cx} {ops:Array Oper} {q0:Nat}:∀ {os:List Oper} {H:St} (k:Nat),headD X os=some H→(∀ j,os[j]?=ops[k+j]?)→sq X ops q0 (k+os.length)=sq X ops q0 k+H.length
 | [],H,k,h,_=>by
  simp only [headD,Option.some.injEq] at h
  subst h
  simp
 | o::os,H,k,h,hos=>by
  have ho:ops[k]?=some o:=by have:=hos 0;simpa using this.symm
  have hos':∀ j,os[j]?=ops[k+1+j]?:=fun j=>by
   have:=hos (j+1)
   simp only [List.getElem?_cons_succ] at this
   rw [this];congr 1;omega
  have e:k+(o::os).length=k+1+os.length:=by simp;omega
  rw [e]
  simp only [headD] at h
  split at h
  ·rename_i hk
   simp only [Option.bind_eq_some_iff,Option.map_eq_some_iff] at h
   obtain ⟨cs,hcs,T,hT,rfl⟩:=h
   rw [head_len (k+1) hT hos',sq_wait ho hk]
   simp;omega
  ·rename_i hk
   rw [head_len (k+1) h hos']
   congr 1
   simp only [sq,ho]
   unfold nq
   split
   ·rename_i h';exact absurd h' hk
   ·rfl
end Go.Vm
