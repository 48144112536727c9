/- VmR6, VmR7, VmNf in one text. -/
import Derived.Test.YtagmpieoalkneaaGreatDoorVmR5
import Derived.Attr
set_option linter.all false
/- Functions,as they are read off;the equations of the run. -/
namespace Go.Vm
open Go.RowKit

variable {β:Type}
abbrev LpT:=FuncId→List Nat→List St→Env→St→ORes
def resR (P:Program) (e:List D) (A:St):List ResultVar→(List D→Option D)→Option D
 | [],k=>k []
 | .tmp t::r,k=>resR P e A r fun ds=>k (e.getD t undefD::ds)
 | .cell a t::r,k=>bn (loadD P t (e.getD a undefD) A) fun d=>resR P e A r fun ds=>k (d::ds)
theorem resR_eq (P:Program) (e:List D) (A:St):∀ (r:List ResultVar) (k:List D→Option D),resR P e A r k=(resultsD P e A r).bind k
 | [],k=>rfl
 | .tmp t::r,k=>by
  simp only [resR,resultsD,resultD,Option.bind_some]
  rw [resR_eq P e A r,bind_map']
 | .cell a t::r,k=>by
  simp only [resR,resultsD,resultD,bn_eq,Option.bind_assoc]
  congr 1;funext d
  rw [resR_eq P e A r,bind_map']
def leaveM (M:Mode) (k:RetK) (A:St) (r:Res) (A':St):ORes :=
 match k with
 | .keep=>some (r,A')
 | .trunc=>M.gk A A' (some (r.shut A.length,A'.take A.length))
 | .can=>M.gk A A' (some ((r.shut A.length).canon,A'.take A.length))
 | .frz=>M.gk A A' (some ((r.frz A.length A').canon,A'.take A.length))
 | .own=>M.gk A A' (match r with
   | .ret (.sl (.own c s) es ds) =>
    if c<A.length then some (r.shut A.length,A'.take A.length)
    else (match A'[c]? with
     | some (.tok m)=>some (.ret (.sl (.own A.length s) es (D.shutL A.length ds)),A'.take A.length++[.tok m])
     | _=>none)
   | r=>some (r.shut A.length,A'.take A.length))
@[simp] theorem leaveM_mL (k:RetK) (A:St) (r:Res) (A':St):leaveM mL k A r A'=leaveD k A r A':=by cases k<;>rfl
def K0R (M:Mode) (X:Cx) (dcall:DcallT) (fn:Func) (A0:St) (o:Out):ORes :=
 bn (o.leave fun e p A'=>leavesD dcall (fun A'=>resR X.P e.t A' fn.results.toList fun ds=>some (packD ds)) e.df p A') fun r=>leaveM M X.h.ret A0 r.1 r.2
noncomputable def K0S (X:Cx) (dcall:DcallT) (fn:Func) (A0:St) (o:Out):ORes :=
 (o.leave fun e p A'=>leavesD dcall (fun A'=>(resultsD X.P e.t A' fn.results.toList).map packD) e.df p A').bind fun r=>leaveD X.h.ret A0 r.1 r.2
theorem K0_eq (X:Cx) (dcall:DcallT) (fn:Func) (A0:St) (o:Out):K0R mL X dcall fn A0 o=K0S X dcall fn A0 o:=by
 unfold K0R K0S
 simp only [bn_eq,leaveM_mL,resR_eq]
 have e:∀ x:Option (List D),(x.bind fun ds=>some (packD ds))=x.map packD:=fun x=>by cases x<;>rfl
 simp only [e]
def loopKR (M:Mode) (X:Cx) (lp:List Nat→List St→Env→St→Option β) (q:List Nat) (ss:List St) (c:Code) (K:Out→Option β) (A:St) (o:Out):Option β :=
 o.seqE (fun t df A'=>maskK X.n (X.h.live (loopId c)) t fun t =>
  match X.h.loopKeep (loopId c) with
  | true=>lp q ss ⟨t,df⟩ A'
  | false=>gkM M A A' (forceK (t.map (D.shut (sLen A))) fun t=>lp q ss ⟨t,df.map fun p=>(p.1.shut (sLen A),D.shutL (sLen A) p.2)⟩ (sTake (sLen A) A'))) K
noncomputable def contR (M:Mode) (X:Cx) (J:KH) (lp:List Nat→List St→Env→St→Option β) (c0:Code) (K0:St→Out→Option β):List Nat→List St→Out→Option β
 | [],ss=>match ss with
  | [A0]=>K0 A0
  | _=>fun _=>none
 | i::q,ss=>match codeAt c0 q with
  | some (.seq a b)=>match i with
   | 0=>fun o=>o.seqE (fun t df A=>expT X.n t fun t=>codeR M X J lp (some (1::q,ss)) b t df A (contR M X J lp c0 K0 q ss)) (contR M X J lp c0 K0 q ss)
   | _=>contR M X J lp c0 K0 q ss
  | some (.cond c a b)=>fun o=>atEndK X.n (X.h.liveJ (condId a b)) o (contR M X J lp c0 K0 q ss)
  | some (.block id c)=>fun o=>contR M X J lp c0 K0 q ss (o.block id)
  | some (.loop c)=>match ss with
   | A::ss'=>loopKR M X lp q ss' c (contR M X J lp c0 K0 q ss') A
   | []=>fun _=>none
  | _=>fun _=>none
def lvl (c0:Code):List Nat→Nat
 | []=>0
 | i::q=>match codeAt c0 q with
  | some (.loop _)=>lvl c0 q+1
  | _=>lvl c0 q
theorem okC_at {P:Program} {h:Hints} {J:KH} {c0:Code} (ok:okC P h J c0=true):∀ (q:List Nat) (c:Code),codeAt c0 q=some c→okC P h J c=true
 | [],c,hc=>by cases hc;exact ok
 | i::q,c,hc=>by
  simp only [codeAt,Option.bind_eq_some_iff] at hc
  obtain ⟨d,hd,hc⟩:=hc
  have:=okC_at ok q d hd
  unfold stepC at hc
  split at hc<;>first|(cases hc;done)|(cases hc;simp only [okC,Bool.and_eq_true] at this;first|exact this.1|exact this.2|exact this)
theorem loopK_eq {X:Cx} {root:Code} {K0:St→Out→Option β} {q:List Nat} {ss:List St} {c:Code} {K KR:Out→Option β} (h1:At X root K0 q ss (.loop c) K)
  (h2:∀ o:Out,o.env.t.length=X.n→KR o=K o) (A:St) (o:Out) (ho:o.env.t.length=X.n):loopKR mL X (lpS X root K0) q ss c KR A o=loopK X c K A o:=by
 unfold loopKR loopK
 rw [seqE_eq]
 refine seqK_congr (fun hx=>?_) (h2 o ho)
 rw [maskK_eq ho o.env.df]
 have e1:(⟨(mask X.n (X.h.live (loopId c)) ⟨o.env.t,o.env.df⟩).t,o.env.df⟩:Env)=mask X.n (X.h.live (loopId c)) o.env:=by
  cases X.h.live (loopId c)<;>rfl
 cases X.h.loopKeep (loopId c) with
 | true=>simp only [cond_true];rw [← e1];exact lpS_eq h1 _ _
 | false =>
  simp only [mL_gk,forceK_eq,sTake,sLen,cond_false]
  rw [lpS_eq h1,← e1]
  unfold Env.shut
  rw [shutL_eq]
theorem cont_at (X:Cx) (hX:X.it=iterL) (J:KH) (root:Code) (K0 K0':St→Out→Option β) (hr:∀ q c,codeAt root q=some c→cAt X.P X.f q=c) (ok:okC X.P X.h J root=true) (hK:∀ A o,K0' A o=K0 A o) :
  ∀ (q:List Nat) (ss:List St) (c:Code),codeAt root q=some c→ss.length=lvl root q+1 →
   ∃ K,At X root K0 q ss c K∧∀ o:Out,o.env.t.length=X.n→contR mL X J (lpS X root K0) root K0' q ss o=K o
 | [],ss,c,hc,hs=>by
  cases hc
  match ss,hs with
  | [A0],_=>exact ⟨_,.root A0,fun o _=>hK A0 o⟩
 | i::q,ss,c,hc,hs=>by
  simp only [codeAt,Option.bind_eq_some_iff] at hc
  obtain ⟨d,hd,hc⟩:=hc
  have okd:=okC_at ok q d hd
  have ih:=fun ss hs=>cont_at X hX J root K0 K0' hr ok hK q ss d hd hs
  cases d with
  | seq a b =>
   simp only [okC,Bool.and_eq_true] at okd
   obtain ⟨K,h1,h2⟩:=ih ss (by simpa only [lvl,hd] using hs)
   match i,hc with
   | 0,hc =>
    cases hc
    refine ⟨_,h1.seqL rfl,fun o ho=>?_⟩
    simp only [contR,hd]
    rw [seqE_eq]
    refine seqK_congr (fun _=>?_) (h2 o ho)
    rw [expT_eq X.n o.env.t o.env.df]
    exact codeR_eq X hX J root K0 hr b (some (1::q,ss)) _ o.env.df o.st K _ okd.2 (expand_len _ _) h2 (fun q' ss' hq=>by cases hq;exact h1.seqR)
   | 1,hc =>
    cases hc
    exact ⟨K,h1.seqR,fun o ho=>by simp only [contR,hd];exact h2 o ho⟩
   | n+2,hc=>cases hc
  | cond t a b =>
   obtain ⟨K,h1,h2⟩:=ih ss (by simpa only [lvl,hd] using hs)
   have h3:∀ o:Out,o.env.t.length=X.n→contR mL X J (lpS X root K0) root K0' (i::q) ss o=K (o.atEnd X.n (X.h.liveJ (condId a b))):=fun o ho=>by
    simp only [contR,hd]
    rw [atEndK_eq ho]
    exact h2 _ (atEnd_len ho)
   match i,hc with
   | 0,hc=>cases hc;exact ⟨_,h1.condL rfl,h3⟩
   | 1,hc=>cases hc;exact ⟨_,h1.condR rfl,h3⟩
   | n+2,hc=>cases hc
  | block id b =>
   obtain ⟨K,h1,h2⟩:=ih ss (by simpa only [lvl,hd] using hs)
   match i,hc with
   | 0,hc =>
    cases hc
    refine ⟨_,h1.block rfl,fun o ho=>?_⟩
    simp only [contR,hd]
    exact h2 _ (by unfold Out.block;cases o.ex<;>exact ho)
   | n+1,hc=>cases n<;>cases hc
  | loop b =>
   match ss,hs with
   | [],hs=>simp at hs
   | A::ss,hs =>
    obtain ⟨K,h1,h2⟩:=ih ss (by simp only [lvl,hd,List.length_cons] at hs;omega)
    match i,hc with
    | 0,hc =>
     cases hc
     refine ⟨_,h1.loop rfl,fun o ho=>?_⟩
     simp only [contR,hd]
     exact loopK_eq h1 h2 A o ho
    | n+1,hc=>cases n<;>cases hc
  | _=>rcases i with _|_|i<;>cases hc
theorem lp_loop (X:Cx) (hX:X.it=iterL) (J:KH) (root:Code) (K0 K0':St→Out→Option β) (hr:∀ q c,codeAt root q=some c→cAt X.P X.f q=c) (ok:okC X.P X.h J root=true) (hK:∀ A o,K0' A o=K0 A o)
  {q:List Nat} {ss:List St} {c:Code} (hc:codeAt root q=some (.loop c)) (hs:ss.length=lvl root q+1) (e:Env) (A:St) :
  lpS X root K0 q ss e A=codeR mL X J (lpS X root K0) (some (0::q,A::ss)) c (expG X.n e).t e.df A (loopKR mL X (lpS X root K0) q ss c (contR mL X J (lpS X root K0) root K0' q ss) A):=by
 obtain ⟨K,h1,h2⟩:=cont_at X hX J root K0 K0' hr ok hK q ss _ hc hs
 rw [codeR_eq X hX J root K0 hr c (some (0::q,A::ss)) (expG X.n e).t e.df A (loopK X c K A) _ (show okC X.P X.h J (.loop c)=true from okC_at ok q _ hc) (expand_len X.n e) (fun o ho=>loopK_eq h1 h2 A o ho) (fun q' ss' hq=>by cases hq;exact h1.loop rfl)]
 rw [lpS_eq h1,iterL_eq,Option.bind_assoc]
 rw [show stp X c e A=(codeD X c ⟨(expG X.n e).t,e.df⟩ A).bind _ from rfl,Option.bind_assoc]
 congr 1
 funext o
 unfold loopK Out.norm Out.seqK
 cases hx:o.ex with
 | normal =>
  simp only []
  cases X.h.loopKeep (loopId c) with
  | true=>rfl
  | false=>simp only [cond_false,guardP_bind,Option.bind_some]
 | _=>simp only [Option.bind_some,hx]
noncomputable def funR (M:Mode) (X:Cx) (J:KH) (dcall:DcallT) (lp:List Nat→List St→Env→St→ORes) (fn:Func) (args:List D) (A:St):ORes :=
 match decide (args.length≤fn.ntmps) && X.n == fn.ntmps with
 | true=>fn.body.bind fun c=>forceK (env0 fn args).t fun t=>codeR M X J lp (some ([],[A])) c t [] A (K0R M X dcall fn A)
 | false=>none
noncomputable def LPf (P:Program) (H:Ext0) (fn:Func) (f:FuncId) (c:Code):List Nat→List St→Env→St→ORes :=
 lpS (mkCx P H (Run P H) iterL f fn) c (K0S (mkCx P H (Run P H) iterL f fn) (dcallD P H (Run P H) iterL) fn)
noncomputable def LP (P:Program) (H:Ext0):LpT:=fun f q ss e A=>(P.funcs[f]?).bind fun fn=>fn.body.bind fun c=>LPf P H fn f c q ss e A
noncomputable def Dcall (P:Program) (H:Ext0):DcallT:=dcallD P H (Run P H) iterL
def bare (hint:FuncId→Hints):Ext0:={ hint,ext:=fun _=>none }
noncomputable def bodyR (M:Mode) (P:Program) (hint:FuncId→Hints) (JJ:FuncId→KH) (call:CallT) (dcall:DcallT) (lp:LpT) (f:FuncId) (args:List D) (A:St):ORes :=
 (P.funcs[f]?).bind fun fn=>match fnOk fn with
  | true=>funR M (mkCx P (bare hint) call iterL f fn) (JJ f) dcall (lp f) fn args A
  | false=>none
noncomputable def loopB (M:Mode) (P:Program) (hint:FuncId→Hints) (JJ:FuncId→KH) (call:CallT) (dcall:DcallT) (lp:LpT) (f:FuncId) (q:List Nat) (ss:List St) (e:Env) (A:St):ORes :=
 (P.funcs[f]?).bind fun fn=>fn.body.bind fun c0=>match codeAt c0 q with
  | some (.loop c)=>genK fn.ntmps e.g [] fun t=>codeR M (mkCx P (bare hint) call iterL f fn) (JJ f) (lp f) (some (0::q,A::ss)) c t e.df A
    (loopKR M (mkCx P (bare hint) call iterL f fn) (lp f) q ss c (contR M (mkCx P (bare hint) call iterL f fn) (JJ f) (lp f) c0 (K0R M (mkCx P (bare hint) call iterL f fn) dcall fn) q ss) A)
  | _=>none
def okF (P:Program) (hint:FuncId→Hints) (JJ:FuncId→KH) (f:FuncId):Bool :=
 match P.funcs[f]? with
 | some fn=>match fn.body with
  | some c=>okC P (hint f) (JJ f) c
  | none=>true
 | none=>true
theorem okF_eq {P:Program} {hint:FuncId→Hints} {JJ:FuncId→KH} {f:FuncId} (ok:okF P hint JJ f=true) {fn:Func} (hf:P.funcs[f]?=some fn) {c:Code} (hc:fn.body=some c):okC P (hint f) (JJ f) c=true:=by
 unfold okF at ok
 simpa only [hf,hc] using ok
theorem cAt_eq {P:Program} {f:FuncId} {fn:Func} (hf:P.funcs[f]?=some fn) {c:Code} (hc:fn.body=some c) (q:List Nat) (d:Code) (h:codeAt c q=some d):cAt P f q=d:=by
 unfold cAt
 rw [hf,Option.bind_some,hc,Option.bind_some,h]
 rfl
theorem qbk (P:Program) (H:Ext0) (JJ:FuncId→KH) {f:FuncId} (hf:Nat.beq f rOff=false) (hx:H.ext f=none) (ok:okF P H.hint JJ f=true) (args:List D) (A:St) :
  Run P H f args A=bodyR mL P H.hint JJ (Run P H) (Dcall P H) (LP P H) f (canA (H.hint f) args) A:=by
 rw [Run_eq]
 unfold bodyD bodyR
 rw [hf,cond_false,hx]
 simp only []
 refine bind_ext fun fn hfn=>?_
 cases hk:fnOk fn with
 | false=>rfl
 | true =>
  simp only [cond_true]
  unfold funD funR
  rw [show (canA (H.hint f) args).length=args.length from by unfold canA;cases (H.hint f).canA<;>simp]
  cases hd:decide (args.length≤fn.ntmps) && fn.ntmps == fn.ntmps with
  | false =>
   rw [show (decide (args.length≤fn.ntmps) && (mkCx P H (Run P H) iterL f fn).n == fn.ntmps)=false from hd,show (decide (args.length≤fn.ntmps) && (mkCx P (bare H.hint) (Run P H) iterL f fn).n == fn.ntmps)=false from hd]
   rfl
  | true =>
   rw [show (decide (args.length≤fn.ntmps) && (mkCx P H (Run P H) iterL f fn).n == fn.ntmps)=true from hd,show (decide (args.length≤fn.ntmps) && (mkCx P (bare H.hint) (Run P H) iterL f fn).n == fn.ntmps)=true from hd]
   simp only [cond_true]
   refine bind_ext fun c hc=>?_
   have hlp:LP P H f=LPf P H fn f c:=by
    funext q ss e A
    unfold LP
    rw [hfn,Option.bind_some,hc,Option.bind_some]
   rw [hlp]
   have hle:args.length≤fn.ntmps:=by simpa using hd
   have hl:(env0 fn (canA (H.hint f) args)).t.length=fn.ntmps:=by
    unfold env0 canA
    cases (H.hint f).canA<;>simp<;>omega
   rw [forceK_eq]
   exact (codeR_eq (mkCx P H (Run P H) iterL f fn) rfl (JJ f) c (K0S (mkCx P H (Run P H) iterL f fn) (dcallD P H (Run P H) iterL) fn) (cAt_eq hfn hc) c (some ([],[A])) _ _ A _ _
    (okF_eq ok hfn hc) hl (fun o _=>K0_eq _ _ fn A o) (fun q ss hq=>by cases hq;exact .root A)).symm
theorem LP_eq (P:Program) (H:Ext0) (JJ:FuncId→KH) {f:FuncId} (ok:okF P H.hint JJ f=true) {q:List Nat} {ss:List St}
  (hl:((P.funcs[f]?).bind fun fn=>fn.body.map fun c=>lvl c q+1)=some ss.length) (e:Env) (A:St) :
  LP P H f q ss e A=loopB mL P H.hint JJ (Run P H) (Dcall P H) (LP P H) f q ss e A:=by
 unfold loopB
 rw [show LP P H f q ss e A=(P.funcs[f]?).bind fun fn=>fn.body.bind fun c=>LPf P H fn f c q ss e A from rfl]
 refine bind_ext fun fn hfn=>bind_ext fun c0 hc=>?_
 rw [hfn,Option.bind_some,hc,Option.map_some,Option.some.injEq] at hl
 have hlp:LP P H f=LPf P H fn f c0:=by
  funext q ss e A
  unfold LP
  rw [hfn,Option.bind_some,hc,Option.bind_some]
 rw [hlp]
 cases hq:codeAt c0 q with
 | none =>
  unfold LPf lpS
  rw [dif_neg]
  rintro ⟨r,hr⟩
  rw [hr.code] at hq;cases hq
 | some d =>
  cases d with
  | loop c =>
   simp only [genK_eq,List.append_nil]
   exact lp_loop (mkCx P H (Run P H) iterL f fn) rfl (JJ f) c0 _ _ (cAt_eq hfn hc) (okF_eq ok hfn hc) (fun A o=>K0_eq _ _ fn A o) hq hl.symm e A
  | _ =>
   unfold LPf lpS
   rw [dif_neg]
   rintro ⟨r,hr⟩
   rw [hr.code] at hq;cases hq
end Go.Vm

/- Rounds of loops over functions,deferred calls: as they are read off. -/
namespace Go.Vm
open Go.RowKit

variable {β:Type}
def roundEndM (M:Mode) (k:Nat) (A:St) (o:Out):ORes :=
 match o with
 | ⟨ex,e,A'⟩=>match ex with
  | .normal=>bn (recSet k .ready A') fun A'=>bn (clM M A A') fun B=>some (.ret (.bool true),B)
  | .ret=>bn (recSet k .ret A') fun A'=>bn (clM M A A') fun B=>some (.ret (.bool false),B)
  | .exit id=>bn (recSet k (.exit id) A') fun A'=>bn (clM M A A') fun B=>some (.ret (.bool false),B)
  | .pan d=>match e.df with
   | []=>bn (clM M A A') fun B=>some (.pan (d.shut (sLen A)),B)
   | _=>none
theorem roundEndM_eq (k:Nat) (A:St) (o:Out):roundEndM mL k A o=roundEnd k A o:=by
 obtain ⟨ex,⟨t,df⟩,A'⟩:=o
 have e:∀ (x:Option St) (d:Res),(bn x fun A'=>bn (clM mL A A') fun B=>some (d,B))=x.map fun A'=>(d,closeSt A A'):=by
  intro x d;cases x<;>rfl
 cases ex with
 | pan d=>cases df<;>rfl
 | _=>exact e _ _
def setPK {γ:Type}:List Tmp→List D→List D→(List D→γ)→γ
 | i::is,d::ds,t,k=>setK t i d fun t=>setPK is ds t k
 | _,_,t,k=>k t
theorem setPK_eq {γ:Type}:∀ (is:List Tmp) (ds t:List D) (k:List D→γ),setPK is ds t k=k (setParams is ds t)
 | [],ds,t,k=>by cases ds<;>rfl
 | i::is,[],t,k=>rfl
 | i::is,d::ds,t,k=>by simp only [setPK,setK_eq,setPK_eq is ds,setParams]
theorem setParams_len:∀ (is:List Tmp) (ds t:List D),(setParams is ds t).length=t.length
 | [],ds,t=>by cases ds<;>rfl
 | i::is,[],t=>rfl
 | i::is,d::ds,t=>by simp only [setParams,setParams_len is ds,List.length_set]
noncomputable def roundC' (M:Mode) (X:Cx) (J:KH) (lp:List Nat→List St→Env→St→ORes) (k:Nat) (e:Env) (rf:Code) (args:List D) (A:St):ORes :=
 match rf with
 | .rangeFunc _ ps x y=>match plainR x && plainR y && Nat.beq args.length ps.toList.length with
  | true=>genK X.n e.g [] fun t=>setPK ps.toList args t fun t=>codeR M X J lp none x t [] A fun o =>
    match o with
    | ⟨ex,⟨t,df⟩,A1⟩=>match ex with
     | .normal=>bn (recBusy k A1) fun A2=>expT X.n t fun t=>codeR M X J lp none y t df A2 (roundEndM M k A)
     | _=>none
  | false=>none
 | _=>none
noncomputable def roundR (M:Mode) (P:Program) (hint:FuncId→Hints) (JJ:FuncId→KH) (call:CallT) (lp:List Nat→List St→Env→St→ORes) (f:FuncId) (k:Nat) (e:Env) (rf:Code) (args:List D) (A:St):ORes :=
 (P.funcs[f]?).bind fun fn=>roundC' M (mkCx P (bare hint) call iterL f fn) (JJ f) lp k e rf args A
theorem round_any (X:Cx) (hX:X.it=iterL) (J:KH) (root:Code) (K0:St→Out→ORes) (hr:∀ q c,codeAt root q=some c→cAt X.P X.f q=c) {rf:Code} (ok:okC X.P X.h J rf=true) {t:List D} (hn:t.length=X.n)
  (k:Nat) (args:List D) (A:St):roundC' mL X J (lpS X root K0) k ⟨t,[]⟩ rf args A=roundC X k t rf args A:=by
 cases rf with
 | rangeFunc g ps x y =>
  simp only [okC,Bool.and_eq_true] at ok
  simp only [roundC',roundC,plainR_eq]
  have hlen:(args.length == ps.size && t.length == X.n)=Nat.beq args.length ps.toList.length:=by
   rw [show (t.length == X.n)=true from beq_iff_eq.2 hn,Bool.and_true]
   rw [Bool.eq_iff_iff,beq_iff_eq,Nat.beq_eq]
   exact Iff.rfl
  rw [hlen]
  cases plainC x && plainC y && Nat.beq args.length ps.toList.length with
  | false=>rfl
  | true =>
   simp only [cond_true,genK_eq,List.append_nil,setPK_eq]
   have e1:(List.range X.n).map (Env.mk t []).g=t:=congrArg Env.t (expand_id (n:=X.n) (e:=⟨t,[]⟩) hn)
   rw [e1]
   have hl:(setParams ps.toList args t).length=X.n:=(setParams_len _ _ _).trans hn
   refine codeR_eq X hX J root K0 hr x none _ _ A _ _ ok.1 hl (fun o ho=>?_) (fun q ss hq=>by cases hq)
   obtain ⟨ex,⟨t',df⟩,A1⟩:=o
   cases ex with
   | normal =>
    simp only [bn_eq]
    refine bind_ext fun A2 _=>?_
    rw [expT_eq X.n t' df]
    exact codeR_eq X hX J root K0 hr y none _ df A2 _ _ ok.2 (expand_len _ _) (fun o _=>roundEndM_eq k A o) (fun q ss hq=>by cases hq)
   | _=>rfl
 | _=>rfl
theorem Run_roundR (P:Program) (H:Ext0) (JJ:FuncId→KH) {f:FuncId} {rf:Code} (ok:okC P (H.hint f) (JJ f) rf=true) {k:Nat} {t:List D} {A:St} (hk:A[k]?=some (.loop f t rf .ready))
  (hn:(P.funcs[f]?).map (·.ntmps)=some t.length) (args:List D) :
  ∃ lp,Run P H rOff [.tup [.yld true k],.tup args] A=roundR mL P H.hint JJ (Run P H) lp f k ⟨t,[]⟩ rf args A:=by
 rw [Run_eq]
 unfold bodyD roundR
 rw [Nat.beq_refl]
 simp only [cond_true,roundD,hk]
 cases hfn:P.funcs[f]? with
 | none=>exact ⟨fun _ _ _ _=>none,rfl⟩
 | some fn =>
  rw [hfn,Option.map_some,Option.some.injEq] at hn
  cases hb:fn.body with
  | none =>
   -- no body: any root whose places are none
   refine ⟨lpS (mkCx P H (Run P H) iterL f fn) .skip (fun _ _=>none), ?_⟩
   rw [Option.bind_some,Option.bind_some]
   refine (round_any (mkCx P H (Run P H) iterL f fn) rfl (JJ f) .skip (fun _ _=>none) (fun q c hq=>?_) ok hn.symm k args A).symm
   have:cAt P f q=.skip:=by unfold cAt;rw [hfn,Option.bind_some,hb];rfl
   rw [show (mkCx P H (Run P H) iterL f fn).P=P from rfl,show (mkCx P H (Run P H) iterL f fn).f=f from rfl,this]
   cases q with
   | nil=>cases hq;rfl
   | cons i q =>
    exfalso
    have:∀ (q:List Nat) (c:Code),codeAt .skip q=some c→q=[]:=by
     intro q
     induction q with
     | nil=>intro c _;rfl
     | cons i q ih =>
      intro c hc
      simp only [codeAt,Option.bind_eq_some_iff] at hc
      obtain ⟨d,hd,hc⟩:=hc
      have:=ih d hd;subst this
      cases hd
      rcases i with _|_|i<;>cases hc
    cases this _ _ hq
  | some c0 =>
   refine ⟨lpS (mkCx P H (Run P H) iterL f fn) c0 (fun _ _=>none), ?_⟩
   rw [Option.bind_some,Option.bind_some]
   exact (round_any (mkCx P H (Run P H) iterL f fn) rfl (JJ f) c0 (fun _ _=>none) (cAt_eq hfn hb) ok hn.symm k args A).symm
def SOut.seqE (o:SOut) (f:List D→List (D×List D)→PS→St→Option β) (K:SOut→Option β):Option β :=
 match o with
 | ⟨ex,⟨t,df⟩,ps,A⟩=>match ex with
  | .normal=>f t df ps A
  | ex=>K ⟨ex,⟨t,df⟩,ps,A⟩
def yldB (d:D):Bool :=
 match d with
 | .yld _ _=>true
 | _=>false
def yldK (t:List D) (op:Op) (k:Option β):Option β :=
 match op with
 | .call { callee:=.value (.func g),.. }=>k
 | .call { callee:=.value f,.. }=>evK t f fun d=>ifb (yldB d) none k
 | _=>k
theorem yldK_eq (t:List D) (op:Op) (k:Option β):yldK t op k=cond (yldCall t op) none k:=by
 cases op<;>try rfl
 rename_i c
 obtain ⟨callee,args,ts⟩:=c
 cases callee with
 | value f =>
  cases f with
  | func g=>rfl
  | _=>simp only [yldK,evK_eq,ifb,yldCall];congr 1
 | _=>rfl
def opsSR (P:Program) (h:Hints) (call:CallT) (ops:Array Oper):List Oper→List D→List (D×List D)→PS→St→(SOut→Option β)→Option β
 | [],t,df,ps,A,K=>K ⟨.normal,⟨t,df⟩,ps,A⟩
 | o::os,t,df,ps,A,K =>
  match recOp o.op with
  | true=>match o.guard with
   | none=>putK o.dst (recoverPS ps).1 t fun t=>opsSR P h call ops os t df (recoverPS ps).2 A K
   | some _=>none
  | false=>yldK t o.op (opsR P h call ops [o] t df A fun r=>r.seqE (fun t df A=>opsSR P h call ops os t df ps A K) fun r=>K ⟨r.ex,r.env,ps,r.st⟩)
theorem opsSR_eq (X:Cx) (ops:Array Oper) (K:SOut→Option β):∀ (os:List Oper) (t:List D) (df:List (D×List D)) (ps:PS) (A:St),opsSR X.P X.h X.call ops os t df ps A K=(opsSD X ops os ⟨t,df⟩ ps A).bind K
 | [],t,df,ps,A=>rfl
 | o::os,t,df,ps,A=>by
  simp only [opsSR,opsSD,putK_eq,yldK_eq,opsR_eq,seqE_eq]
  cases recOp o.op with
  | false =>
   simp only [cond_false]
   cases yldCall t o.op
   case true=>rfl
   simp only [cond_false]
   rw [Option.bind_assoc]
   congr 1
   funext r
   unfold Out.seqK
   cases hx:r.ex with
   | normal=>exact opsSR_eq X ops K os _ _ _ _
   | exit i=>simp only [hx,Option.bind_some]
   | ret=>simp only [hx,Option.bind_some]
   | pan d=>simp only [hx,Option.bind_some]
  | true =>
   simp only [cond_true]
   cases o.guard with
   | none=>exact opsSR_eq X ops K os _ _ _ _
   | some g=>rfl
noncomputable def codeSR (M:Mode) (X:Cx) (J:KH) (lp:List Nat→List St→Env→St→Option β):Code→List D→List (D×List D)→PS→St→(SOut→Option β)→Option β
 | .seq a b,t,df,ps,A,K=>codeSR M X J lp a t df ps A fun o=>o.seqE (fun t df ps A=>expT X.n t fun t=>codeSR M X J lp b t df ps A K) K
 | .cond c a b,t,df,ps,A,K=>evK t c fun d=>bn (D.bool? d) fun s=>ifb s (refK c true t fun t=>codeSR M X J lp a t df ps A K) (refK c false t fun t=>codeSR M X J lp b t df ps A K)
 | .region id ops draw,t,df,ps,A,K=>match ops.toList.any fun o=>recOp o.op with
  | true=>match draw with
   | true=>none
   | false=>opsSR X.P X.h X.call ops ops.toList t df ps A K
  | false=>codeR M X J lp none (.region id ops draw) t df A fun o=>K ⟨o.ex,o.env,ps,o.st⟩
 | c,t,df,ps,A,K=>match noRf c with
  | true=>codeR M X J lp none c t df A fun o=>K ⟨o.ex,o.env,ps,o.st⟩
  | false=>none
theorem codeSR_eq (X:Cx) (hX:X.it=iterL) (J:KH) (root:Code) (K0:St→Out→Option β) (hr:∀ q c,codeAt root q=some c→cAt X.P X.f q=c) (c:Code) :
  ∀ (t:List D) (df:List (D×List D)) (ps:PS) (A:St) (K:SOut→Option β),okC X.P X.h J c=true→t.length=X.n→codeSR mL X J (lpS X root K0) c t df ps A K=(codeSD X c ⟨t,df⟩ ps A).bind K:=by
 have hc:∀ (c:Code) (t:List D) (df:List (D×List D)) (ps:PS) (A:St) (K:SOut→Option β),okC X.P X.h J c=true→t.length=X.n →
   codeR mL X J (lpS X root K0) none c t df A (fun o=>K ⟨o.ex,o.env,ps,o.st⟩)=((codeD X c ⟨t,df⟩ A).map fun o=>(⟨o.ex,o.env,ps,o.st⟩:SOut)).bind K:=by
  intro c t df ps A K ok he
  rw [codeR_eq X hX J root K0 hr c none t df A (fun o=>K ⟨o.ex,o.env,ps,o.st⟩) _ ok he (fun _ _=>rfl) (fun q ss hq=>by cases hq),bind_map']
 induction c with
 | seq a b iha ihb =>
  intro t df ps A K ok he
  simp only [okC,Bool.and_eq_true] at ok
  simp only [codeSR,codeSD]
  rw [iha t df ps A _ ok.1 he,Option.bind_assoc]
  congr 1
  funext o
  obtain ⟨ex,⟨t',df'⟩,ps',A'⟩:=o
  cases ex with
  | normal =>
   simp only [SOut.seqE,SOut.seq]
   rw [expT_eq X.n t' df']
   exact ihb _ _ _ _ K ok.2 (expand_len _ _)
  | _=>rfl
 | cond c a b iha ihb =>
  intro t df ps A K ok he
  simp only [okC,Bool.and_eq_true] at ok
  simp only [codeSR,codeSD,bn_eq,evK_eq,refK_eq _ _ t df]
  cases h:(evalO t c).bool? with
  | none=>rfl
  | some s =>
   simp only [Option.bind_some,ifb]
   have re:(refine c s ⟨t,df⟩).t=t:=by rw [refine_eq c s ⟨t,df⟩ h]
   cases s
   ·rw [cond_false,re];exact ihb _ _ _ _ K ok.2 he
   ·rw [cond_true,re];exact iha _ _ _ _ K ok.1 he
 | region id ops draw =>
  intro t df ps A K ok he
  simp only [codeSR,codeSD]
  rw [show (ops.toList.any fun o=>recOp o.op)=(ops.any fun o=>recOp o.op) from Array.any_toList]
  cases ops.any fun o=>recOp o.op
  ·exact hc _ _ _ _ _ K ok he
  ·cases draw
   ·exact opsSR_eq X ops K _ _ _ _ _
   ·rfl
 | _ =>
  intro t df ps A K ok he
  simp only [codeSR,codeSD]
  generalize hn:noRf _=b
  cases b
  ·rfl
  ·exact hc _ _ _ _ _ K ok he
noncomputable def defR (M:Mode) (P:Program) (hint:FuncId→Hints) (JJ:FuncId→KH) (call:CallT) (lp:List Nat→List St→Env→St→Option (Option D×St)) (g:FuncId) (args:List D) (p:Option D) (A:St):Option (Option D×St) :=
 (P.funcs[g]?).bind fun fn=>match fnOk fn with
  | true=>match decide (args.length≤fn.ntmps) && fn.ntmps == fn.ntmps with
   | true=>fn.body.bind fun c=>forceK (env0 fn args).t fun t=>codeSR M (mkCx P (bare hint) call iterL g fn) (JJ g) lp c t [] (p.map fun d=>(d,false)) A fun o =>
     match o with
     | ⟨ex,⟨t,df⟩,ps,A'⟩=>match ex with
      | .normal|.ret=>match df with
       | []=>bn (resR P t A' fn.results.toList fun ds=>some (.tup ds)) fun _=>gkM M A A' (some ((afterPS ps).map (D.shut (sLen A)),sTake (sLen A) A'))
       | _=>none
      | _=>none
   | false=>none
  | false=>none
theorem Dcall_eqR (P:Program) (H:Ext0) (JJ:FuncId→KH) {g:FuncId} (ok:okF P H.hint JJ g=true) (first cap args:List D) (p:Option D) (A:St) :
  ∃ lp,Dcall P H (.fn (.func g) first cap) args p A=defR mL P H.hint JJ (Run P H) lp g (first++args++cap) p A:=by
 unfold Dcall dcallD defR
 simp only
 cases hfn:P.funcs[g]? with
 | none=>exact ⟨fun _ _ _ _=>none,rfl⟩
 | some fn =>
  cases hb:fn.body with
  | none =>
   refine ⟨fun _ _ _ _=>none, ?_⟩
   have:fnOk fn=false:=by unfold fnOk;rw [hb];simp
   rw [Option.bind_some,Option.bind_some,this]
   rfl
  | some c =>
   refine ⟨lpS (mkCx P H (Run P H) iterL g fn) c (fun _ _=>none), ?_⟩
   rw [Option.bind_some,Option.bind_some]
   cases fnOk fn with
   | false=>rfl
   | true =>
    rw [cond_true]
    unfold defD
    rw [hb]
    show cond (decide ((first++args++cap).length≤fn.ntmps) && fn.ntmps == fn.ntmps) _ none=_
    cases hd:decide ((first++args++cap).length≤fn.ntmps) && fn.ntmps == fn.ntmps with
    | false=>rfl
    | true =>
     simp only [cond_true,Option.bind_some,forceK_eq]
     have hle:(first++args++cap).length≤fn.ntmps:=by simpa using hd
     have hl:(env0 fn (first++args++cap)).t.length=fn.ntmps:=by
      simp only [env0,List.length_append,List.length_replicate] at hle ⊢;omega
     refine Eq.trans ?_ (codeSR_eq (mkCx P H (Run P H) iterL g fn) rfl (JJ g) c (fun _ _=>none) (cAt_eq hfn hb) c _ [] _ A _ (okF_eq ok hfn hb) hl).symm
     refine bind_ext fun o _=>?_
     obtain ⟨ex,⟨t,df⟩,ps,A'⟩:=o
     cases ex with
     | normal=>cases df<;>first|(simp only [bn_eq,resR_eq,Option.bind_assoc,mL_gk,sLen,sTake,List.isEmpty_nil,cond_true,Option.bind_some];rfl)|rfl
     | ret=>cases df<;>first|(simp only [bn_eq,resR_eq,Option.bind_assoc,mL_gk,sLen,sTake,List.isEmpty_nil,cond_true,Option.bind_some];rfl)|rfl
     | _=>rfl
theorem okC_rf {P:Program} {hint:FuncId→Hints} {JJ:FuncId→KH} {f:FuncId} (ok:okF P hint JJ f=true) {q:List Nat} (h:((P.funcs[f]?).bind fun fn=>fn.body.bind fun c=>(codeAt c q).map fun _=>true)=some true) :
  okC P (hint f) (JJ f) (cAt P f q)=true:=by
 simp only [Option.bind_eq_some_iff,Option.map_eq_some_iff] at h
 obtain ⟨fn,h1,c,h2,d,h3,_⟩:=h
 rw [cAt_eq h1 h2 q d h3]
 exact okC_at (okF_eq ok h1 h2) q d h3
end Go.Vm

/- Normal forms: a function's text by reduction. -/
namespace Go.Vm
def mkKH (pan:List (Nat×List Nat)) (loose:List (Nat×List (Nat×Nat))):KH :=
 ⟨joinText,fun r=>(pan.lookup r).getD [],fun r=>(loose.lookup r).getD []⟩
abbrev Nf {α:Type} (x:α):={ y:α // x=y }
section
variable {α β γ:Type}
attribute [go_sem] mkCx cAtI seqI Nat.succ_eq_add_one bn_some qaq qak
@[go_sem] theorem nf_len (A:St):sLen A=A.length:=rfl
@[go_sem] theorem nf_app (A B:St):sApp A B=A++B:=rfl
@[go_sem] theorem nf_take (n:Nat) (A:St):sTake n A=A.take n:=rfl
@[go_sem] theorem nf_lv (dcall:DcallT) (res:St→Option D) (A:St):leavesD dcall res [] none A=mp (res A) fun d=>(.ret d,A):=rfl
@[go_sem] theorem nf_lp (dcall:DcallT) (res:St→Option D) (p:D) (A:St):leavesD dcall res [] (some p) A=some (.pan p,A):=rfl
@[go_sem] theorem nf_mp (a:α) (f:α→β):mp (some a) f=some (f a):=rfl
@[go_sem] theorem nf_df (f:Fn) (a b c:List D):deferO (.fn f a b) c=some (.fn f a b,c):=rfl
@[go_sem] theorem nf_bq (b:Bool):D.bool? (.bool b)=some b:=rfl
@[go_sem] theorem nf_gb (w b:Bool):guardB w (.bool b)=some (b == w):=rfl
@[go_sem] theorem nf_gn (w:Bool):guardB w (.tup [])=some false:=rfl
@[go_sem] theorem nf_u8 (n:Nat) (h:n<2 ^ 8):UInt8.ofBitVec (BitVec.ofFin ⟨n,h⟩)=UInt8.ofNat n:=by
 apply UInt8.eq_of_toBitVec_eq
 apply BitVec.eq_of_toNat_eq
 simp only [BitVec.toNat_ofFin,UInt8.toNat_toBitVec,UInt8.toNat_ofNat']
 omega
end
end Go.Vm
