/- VmEv, VmClosed in one text. -/
import Derived.Test.YtagmpieoalkneaaGreatDoorVmNf
set_option linter.all false
/- The run,reckoned: what it tells the run says. -/
namespace Go.Vm

def OLe {α:Type} (x y:Option α):Prop:=∀ r,x=some r→y=some r
theorem OLe.refl {α:Type} (x:Option α):OLe x x:=fun _ h=>h
theorem OLe.none {α:Type} (y:Option α):OLe none y:=fun _ h=>by cases h
theorem OLe.of_eq {α:Type} {x y:Option α} (h:x=y):OLe x y:=h ▸ OLe.refl x
theorem OLe.trans {α:Type} {x y z:Option α} (h:OLe x y) (k:OLe y z):OLe x z:=fun r hr=>k r (h r hr)
theorem OLe.bn {α β:Type} {f g:α→Option β} {x y:Option α} (h:OLe x y) (k:∀ a,OLe (f a) (g a)):OLe (bn x f) (bn y g):=by
 intro r hr
 rw [bn_eq,Option.bind_eq_some_iff] at hr ⊢
 obtain ⟨a,h1,h2⟩:=hr
 exact ⟨a,h a h1,k a r h2⟩
theorem OLe.bind {α β:Type} {f g:α→Option β} {x y:Option α} (h:OLe x y) (k:∀ a,OLe (f a) (g a)):OLe (x.bind f) (y.bind g):=by
 rw [← bn_eq,← bn_eq]
 exact h.bn k
theorem OLe.map {α β:Type} (f:α→β) {x y:Option α} (h:OLe x y):OLe (x.map f) (y.map f):=by
 intro r hr
 rw [Option.map_eq_some_iff] at hr ⊢
 obtain ⟨a,h1,h2⟩:=hr
 exact ⟨a,h a h1,h2⟩
theorem OLe.ifb {α:Type} (b:Bool) {x y x' y':Option α} (h:OLe x y) (k:OLe x' y'):OLe (ifb b x x') (ifb b y y'):=by
 cases b
 ·exact k
 ·exact h
theorem OLe.elim {α:Type} (r:Res) {f g f' g':D→Option α} (h:∀ d,OLe (f d) (f' d)) (k:∀ d,OLe (g d) (g' d)):OLe (r.elim f g) (r.elim f' g'):=by
 cases r
 ·exact h _
 ·exact k _
structure MLe (M:Mode):Prop where
 gk:∀ {α:Type} (A A':St) (x y:Option α),OLe x y→OLe (gkM M A A' x) (gkM mL A A' y)
 gs:∀ {α:Type} (p:Prop) (b:Bool) (x y:Option α),(b=true→p)→OLe x y→OLe (M.gs p b x) (mL.gs p b y)
 gw:∀ cs k A,OLe (gwM M cs k A) (gwM mL cs k A)
 cl:∀ A A',OLe (clM M A A') (clM mL A A')
 fb:∀ {α:Type} (x y:Option α),OLe (fbM M x) y

section
variable {β:Type} {M:Mode} (hM:MLe M) {P:Program} {h:Hints} {n:Nat} {fi:FuncId} {call callL:CallT} {it itL:(Env→St→Option Out)→Env→St→Option Out}
 (hc:∀ f ds A,OLe (call f ds A) (callL f ds A))
theorem seqE_le (o:Out) {f f':List D→List (D×List D)→St→Option β} {K K':Out→Option β} (h1:∀ t df A,OLe (f t df A) (f' t df A)) (h2:∀ o,OLe (K o) (K' o)):OLe (o.seqE f K) (o.seqE f' K'):=by
 obtain ⟨ex,⟨t,df⟩,A⟩:=o
 cases ex<;>first|exact h1 _ _ _|exact h2 _
theorem tot_le (t:List D) (op:Op) {k k':D→Option β} {z z':Option β} (h1:∀ d,OLe (k d) (k' d)) (h2:OLe z z'):OLe (totK P t op k z) (totK P t op k' z'):=by
 unfold totK
 split
 ·simp only [evK_eq];exact h1 _
 ·simp only [evK_eq];exact h1 _
 ·simp only [evsK_eq];exact h1 _
 ·split
  ·exact h2
  ·simp only [evK_eq];exact h1 _
 ·exact h2
theorem tok_le (l:List (Nat×Nat)) (d:D) (A:St) {k k':D→St→Option β} (h1:∀ d A,OLe (k d A) (k' d A)):OLe (tokR l d A k) (tokR l d A k'):=by
 simp only [tokR_eq];exact h1 _ _
include hc
theorem apply_le (f:D) (args:List D) (A:St):OLe (applyD call f args A) (applyD callL f args A):=by
 unfold applyD
 split
 ·exact hc _ _ _
 ·split
  ·exact hc _ _ _
  ·exact OLe.refl _
 ·exact OLe.refl _
theorem callD_le (e:List D) (op:Op) (A:St):OLe (callD call e op A) (callD callL e op A):=by
 unfold callD
 split
 ·exact apply_le hc _ _ _
 ·exact OLe.refl _
 ·exact OLe.refl _
 ·exact OLe.refl _
theorem opsR_le (ops:Array Oper) {K K':Out→Option β} (hK:∀ o,OLe (K o) (K' o)):∀ (os:List Oper) (t:List D) (df:List (D×List D)) (A:St),OLe (opsR P h call ops os t df A K) (opsR P h callL ops os t df A K')
 | [],t,df,A=>hK _
 | o::os,t,df,A=>by
  have ih:=opsR_le ops hK os
  unfold opsR
  cases hg:o.guard with
  | none =>
   simp only [putK_eq,pureK_eq,worldK_eq,callK_eq,deferK_eq]
   cases opK P o.op with
   | pure=>exact tot_le _ _ (fun d=>tok_le _ _ _ fun d A=>ih _ _ _) ((OLe.refl _).bn fun d=>tok_le _ _ _ fun d A=>ih _ _ _)
   | world=>exact (OLe.refl _).bn fun r=>tok_le _ _ _ fun d A=>ih _ _ _
   | call=>exact (callD_le hc _ _ _).bn fun r=>OLe.elim _ (fun d=>ih _ _ _) (fun p=>hK _)
   | defer=>exact (OLe.refl _).bn fun d=>ih _ _ _
   | bad=>exact OLe.none _
  | some g =>
   simp only [guardK_eq hg,putK_eq,pureK_eq,worldK_eq,callK_eq,deferK_eq]
   refine (OLe.refl _).bn fun w=>?_
   cases opK P o.op with
   | pure=>exact (OLe.refl _).bn fun d=>tok_le _ _ _ fun d A=>ih _ _ _
   | world=>exact (OLe.refl _).bn fun r=>tok_le _ _ _ fun d A=>ih _ _ _
   | call=>exact (OLe.ifb w (callD_le hc _ _ _) (OLe.refl _)).bn fun r=>OLe.elim _ (fun d=>ih _ _ _) (fun p=>hK _)
   | defer=>exact OLe.ifb w ((OLe.refl _).bn fun d=>ih _ _ _) (OLe.none _)
   | bad=>exact OLe.none _
include hM
theorem traceR_le (ops:Array Oper) {K K':List TStep→List D→St→Option D→Option β} (hK:∀ T e A r,OLe (K T e A r) (K' T e A r)):∀ (os:List Oper) (k:Nat) (t:List D) (A:St) (acc:List TStep),
  OLe (traceR M P h call ops os k t A acc K) (traceR mL P h callL ops os k t A acc K')
 | [],k,t,A,acc=>hK _ _ _ _
 | o::os,k,t,A,acc=>by
  have ih:=traceR_le ops hK os
  have hw:∀ k A,OLe (waitR M P o.op k A) (waitR mL P o.op k A):=fun k A=>(OLe.refl _).bind fun cs=>hM.gw cs k A
  unfold traceR
  cases hg:o.guard with
  | none =>
   simp only [putK_eq,valK_eq,worldK_eq,callK_eq]
   cases hk:drK (bareX P h) o.op with
   | val=>exact tot_le _ _ (fun d=>ih _ _ _ _) ((OLe.refl _).bn fun d=>ih _ _ _ _)
   | load=>simp only [loadK_eq hk];exact (OLe.refl _).bn fun d=>ih _ _ _ _
   | wait=>exact (hw _ _).bn fun d=>ih _ _ _ _
   | eff =>
    cases opK P o.op
    case call=>exact (callD_le hc _ _ _).bn fun r=>OLe.elim _ (fun d=>ih _ _ _ _) (fun p=>hK _ _ _ _)
    all_goals exact (OLe.refl _).bn fun r=>ih _ _ _ _
   | bad=>exact OLe.none _
  | some g =>
   simp only [guardK_eq hg,putK_eq,valK_eq,worldK_eq,callK_eq]
   refine (OLe.refl _).bn fun w=>?_
   cases hk:drK (bareX P h) o.op with
   | val=>exact (OLe.refl _).bn fun d=>ih _ _ _ _
   | load=>simp only [loadK_eq hk];exact (OLe.refl _).bn fun d=>ih _ _ _ _
   | wait=>exact (OLe.ifb w (hw _ _) (OLe.refl _)).bn fun d=>ih _ _ _ _
   | eff =>
    cases opK P o.op
    case call=>exact (OLe.ifb w (callD_le hc _ _ _) (OLe.refl _)).bn fun r=>OLe.elim _ (fun d=>ih _ _ _ _) (fun p=>hK _ _ _ _)
    all_goals exact (OLe.refl _).bn fun r=>ih _ _ _ _
   | bad=>exact OLe.none _
omit hc in
theorem gsR_le (l:List (D×St×St)) {x y:Option β} (k:OLe x y):OLe (gsR M l x) (gsR mL l y):=by
 cases l with
 | nil=>exact k
 | cons a r=>exact hM.gs _ _ _ _ smB_eq k
theorem drawR_le (ops:Array Oper) (pan:List Nat) (loose:List (Nat×Nat)) (t:List D) (df:List (D×List D)) (A:St) {K K':Out→Option β} (hK:∀ o,OLe (K o) (K' o)) :
  OLe (drawR M P h call ops pan loose t df A K) (drawR mL P h callL ops pan loose t df A K'):=by
 unfold drawR
 split
 ·refine traceR_le hM hc ops (fun T e A r=>?_) _ _ _ _ _
  split
  ·exact gsR_le hM _ (hK _)
  ·split
   ·exact OLe.none _
   ·simp only [forgetK_eq];exact gsR_le hM _ (hK _)
 ·exact OLe.none _
omit hc hM in
theorem atEnd_le (n:Nat) (live:Option (List Nat)) (o:Out) {K K':Out→Option β} (hK:∀ o,OLe (K o) (K' o)):OLe (atEndK n live o K) (atEndK n live o K'):=by
 unfold atEndK
 cases live with
 | none=>exact hK _
 | some l =>
  obtain ⟨ex,⟨t,df⟩,A⟩:=o
  cases ex with
  | normal=>simp only [maskK,genK_eq,zipK_eq];exact hK _
  | _=>exact hK _
omit hc hM in
theorem expT_le (n:Nat) (t:List D) {k k':List D→Option β} (hk:∀ t,OLe (k t) (k' t)):OLe (expT n t k) (expT n t k'):=by
 unfold expT
 split
 ·exact hk _
 ·simp only [forceK_eq];exact hk _
omit hc hM in
theorem mask_le (n:Nat) (live:Option (List Nat)) (t:List D) {k k':List D→Option β} (hk:∀ t,OLe (k t) (k' t)):OLe (maskK n live t k) (maskK n live t k'):=by
 unfold maskK
 cases live with
 | none=>exact hk _
 | some l=>simp only [genK_eq,zipK_eq];exact hk _
omit hc hM in
theorem exS_le {kz kz':Ex→Option β} (hz:∀ x,OLe (kz x) (kz' x)) (x:Ex) (l:List Nat):OLe (@exS β kz x (kz .normal) (kz .ret) (l.map fun i=>(i,kz (.exit i)))) (@exS β kz' x (kz' .normal) (kz' .ret) (l.map fun i=>(i,kz' (.exit i)))):=by
 rw [exS_eq,exS_eq];exact hz x
theorem codeR_le (J:KH) {lp lpL:List Nat→List St→Env→St→Option β} (hl:∀ q ss e A,OLe (lp q ss e A) (lpL q ss e A)):∀ (c:Code) (p:Option (List Nat×List St)) (t:List D) (df:List (D×List D)) (A:St) {K K':Out→Option β},
  (∀ o,OLe (K o) (K' o))→OLe (codeR M ⟨P,h,call,it,n,fi⟩ J lp p c t df A K) (codeR mL ⟨P,h,callL,itL,n,fi⟩ J lpL p c t df A K'):=by
 intro c
 induction c with
 | skip=>intro p t df A K K' hK;exact hK _
 | label l=>intro p t df A K K' hK;exact hK _
 | exit id=>intro p t df A K K' hK;exact hK _
 | ret=>intro p t df A K K' hK;exact hK _
 | region id ops draw =>
  intro p t df A K K' hK
  simp only [codeR]
  cases draw
  ·exact opsR_le hc ops hK _ _ _ _
  ·exact drawR_le hM hc ops _ _ t df A hK
 | seq a b iha ihb =>
  intro p t df A K K' hK
  simp only [codeR]
  exact iha _ _ _ _ fun o=>seqE_le o (fun t df A=>expT_le _ _ fun t=>ihb _ _ _ _ hK) hK
 | cond c a b iha ihb =>
  intro p t df A K K' hK
  simp only [codeR,evK_eq,refK_eq c _ t df]
  refine (OLe.refl _).bn fun s=>?_
  cases J.J c a b with
  | true=>exact OLe.ifb s (iha _ _ _ _ fun o=>atEnd_le _ _ _ hK) (ihb _ _ _ _ fun o=>atEnd_le _ _ _ hK)
  | false =>
   simp only [jn,genK_eq]
   exact OLe.ifb s (iha _ _ _ _ fun o=>atEnd_le _ _ _ fun o=>seqE_le o (fun t df A=>hK _) hK) (ihb _ _ _ _ fun o=>atEnd_le _ _ _ fun o=>seqE_le o (fun t df A=>hK _) hK)
 | block id c ih =>
  intro p t df A K K' hK
  simp only [codeR]
  exact ih _ _ _ _ fun o=>hK _
 | loop c ih =>
  intro p t df A K K' hK
  cases p with
  | none=>simp only [codeR];exact hM.fb _ _
  | some r=>simp only [codeR];exact mask_le _ _ _ fun t=>hl _ _ _ _
 | rangeFunc g ps x y =>
  intro p t df A K K' hK
  simp only [codeR,evK_eq]
  cases plainR x && plainR y with
  | false=>exact OLe.none _
  | true =>
   refine mask_le _ _ _ fun t'=>?_
   refine OLe.bn ?_ fun r=>OLe.elim _ (fun d=>(OLe.refl _).bn fun z=>exS_le (kz:=fun x=>K ⟨x,⟨t,(.yld true (sLen A),[])::df⟩,z.2⟩) (kz':=fun x=>K' ⟨x,⟨t,(.yld true (sLen A),[])::df⟩,z.2⟩) (fun x=>hK _) _ _) (fun p=>hK _)
   unfold seqI seqCall
   split
   ·generalize Option.any fnOk _=b
    cases b
    ·exact OLe.none _
    ·exact hc _ _ _
   ·exact OLe.none _
 | scope c=>intro p t df A K K' hK;exact OLe.none _
 | goto l=>intro p t df A K K' hK;exact OLe.none _
 | refuse s=>intro p t df A K K' hK;exact OLe.none _
omit hc in
theorem leaveM_le (k:RetK) (A:St) (r:Res) (A':St):OLe (leaveM M k A r A') (leaveM mL k A r A'):=by
 cases k with
 | keep=>exact OLe.refl _
 | _=>exact hM.gk _ _ _ _ (OLe.refl _)
omit hc hM in
theorem leaves_le {dcall dcallL:DcallT} (hd:∀ f args p A,OLe (dcall f args p A) (dcallL f args p A)) (res:St→Option D):∀ (dfs:List (D×List D)) (p:Option D) (A:St),OLe (leavesD dcall res dfs p A) (leavesD dcallL res dfs p A)
 | [],none,A=>OLe.refl _
 | [],some p,A=>OLe.refl _
 | (f,args)::r,p,A=>by
  unfold leavesD
  split
  ·split
   ·exact leaves_le hd res r p _
   ·exact OLe.none _
  ·exact (hd _ _ _ _).bind fun x=>leaves_le hd res r _ _
omit hc in
theorem K0_le {X X':Cx} (hP:X.P=X'.P) (hh:X.h=X'.h) {dcall dcallL:DcallT} (hd:∀ f args p A,OLe (dcall f args p A) (dcallL f args p A)) (fn:Func) (A0:St) (o:Out):OLe (K0R M X dcall fn A0 o) (K0R mL X' dcallL fn A0 o):=by
 unfold K0R
 rw [hP,hh]
 refine OLe.bn ?_ fun r=>leaveM_le hM _ _ _ _
 unfold Out.leave
 split
 ·exact leaves_le hd _ _ _ _
 ·exact leaves_le hd _ _ _ _
 ·exact leaves_le hd _ _ _ _
 ·exact OLe.none _
omit hc in
theorem loopK_le {X X':Cx} (hX:X.n=X'.n) (hh:X.h=X'.h) {lp lpL:List Nat→List St→Env→St→Option β} (hl:∀ q ss e A,OLe (lp q ss e A) (lpL q ss e A)) (q:List Nat) (ss:List St) (c:Code) {K K':Out→Option β} (hK:∀ o,OLe (K o) (K' o)) (A:St) (o:Out) :
  OLe (loopKR M X lp q ss c K A o) (loopKR mL X' lpL q ss c K' A o):=by
 unfold loopKR
 rw [hX,hh]
 refine seqE_le o (fun t df A'=>mask_le _ _ _ fun t=>?_) hK
 split
 ·exact hl _ _ _ _
 ·refine hM.gk _ _ _ _ ?_
  simp only [forceK_eq]
  exact hl _ _ _ _
theorem contR_le (J:KH) {lp lpL:List Nat→List St→Env→St→Option β} (hl:∀ q ss e A,OLe (lp q ss e A) (lpL q ss e A)) (c0:Code) {K0 K0':St→Out→Option β} (hK:∀ A o,OLe (K0 A o) (K0' A o)) :
  ∀ (q:List Nat) (ss:List St) (o:Out),OLe (contR M ⟨P,h,call,it,n,fi⟩ J lp c0 K0 q ss o) (contR mL ⟨P,h,callL,itL,n,fi⟩ J lpL c0 K0' q ss o)
 | [],ss,o=>by
  unfold contR
  split
  ·exact hK _ _
  ·exact OLe.none _
 | i::q,ss,o=>by
  have ih:=contR_le J hl c0 hK q
  simp only [contR]
  cases codeAt c0 q with
  | none=>exact OLe.none _
  | some d =>
   cases d with
   | seq a b =>
    rcases i with _|i
    ·exact seqE_le o (fun t df A=>expT_le _ _ fun t=>codeR_le hM hc J hl _ _ _ _ _ fun o=>ih ss o) fun o=>ih ss o
    ·exact ih ss o
   | cond c a b=>exact atEnd_le _ _ _ fun o=>ih ss o
   | block id c=>exact ih ss _
   | loop c =>
    cases ss with
    | nil=>exact OLe.none _
    | cons A ss=>exact loopK_le hM rfl rfl hl _ _ _ (fun o=>ih _ o) _ _
   | _=>exact OLe.none _
theorem roundC_le (J:KH) {lp lpL:List Nat→List St→Env→St→ORes} (hl:∀ q ss e A,OLe (lp q ss e A) (lpL q ss e A)) (k:Nat) (e:Env) (rf:Code) (args:List D) (A:St) :
  OLe (roundC' M ⟨P,h,call,it,n,fi⟩ J lp k e rf args A) (roundC' mL ⟨P,h,callL,itL,n,fi⟩ J lpL k e rf args A):=by
 unfold roundC'
 split
 ·split
  ·simp only [genK_eq,setPK_eq]
   refine codeR_le hM hc J hl _ _ _ _ _ fun o=>?_
   obtain ⟨ex,⟨t,df⟩,A1⟩:=o
   cases ex with
   | normal =>
    refine (OLe.refl _).bn fun A2=>expT_le _ _ fun t=>codeR_le hM hc J hl _ _ _ _ _ fun o=>?_
    obtain ⟨ex,⟨t,df⟩,A1⟩:=o
    unfold roundEndM
    cases ex with
    | pan d =>
     simp only []
     split
     ·exact (hM.cl _ _).bn fun B=>OLe.refl _
     ·exact OLe.none _
    | _=>exact (OLe.refl _).bn fun A'=>(hM.cl _ _).bn fun B=>OLe.refl _
   | _=>exact OLe.none _
  ·exact OLe.none _
 ·exact OLe.none _
omit hM in
theorem opsSR_le (ops:Array Oper) {K K':SOut→Option β} (hK:∀ o,OLe (K o) (K' o)):∀ (os:List Oper) (t:List D) (df:List (D×List D)) (ps:PS) (A:St),OLe (opsSR P h call ops os t df ps A K) (opsSR P h callL ops os t df ps A K')
 | [],t,df,ps,A=>hK _
 | o::os,t,df,ps,A=>by
  have ih:=opsSR_le ops hK os
  unfold opsSR
  simp only [putK_eq,yldK_eq]
  split
  ·split
   ·exact ih _ _ _ _
   ·exact OLe.none _
  ·cases yldCall t o.op
   ·exact opsR_le hc ops (fun r=>seqE_le r (fun t df A=>ih _ _ _ _) fun r=>hK _) _ _ _ _
   ·exact OLe.none _
theorem codeSR_le (J:KH) {lp lpL:List Nat→List St→Env→St→Option β} (hl:∀ q ss e A,OLe (lp q ss e A) (lpL q ss e A)):∀ (c:Code) (t:List D) (df:List (D×List D)) (ps:PS) (A:St) {K K':SOut→Option β},
  (∀ o,OLe (K o) (K' o))→OLe (codeSR M ⟨P,h,call,it,n,fi⟩ J lp c t df ps A K) (codeSR mL ⟨P,h,callL,itL,n,fi⟩ J lpL c t df ps A K'):=by
 have seq_le:∀ (o:SOut) {f f':List D→List (D×List D)→PS→St→Option β} {K K':SOut→Option β},(∀ t df ps A,OLe (f t df ps A) (f' t df ps A))→(∀ o,OLe (K o) (K' o))→OLe (o.seqE f K) (o.seqE f' K'):=by
  intro o f f' K K' h1 h2
  obtain ⟨ex,⟨t,df⟩,ps,A⟩:=o
  cases ex<;>first|exact h1 _ _ _ _|exact h2 _
 intro c
 induction c with
 | seq a b iha ihb =>
  intro t df ps A K K' hK
  simp only [codeSR]
  exact iha _ _ _ _ fun o=>seq_le o (fun t df ps A=>expT_le _ _ fun t=>ihb _ _ _ _ hK) hK
 | cond c a b iha ihb =>
  intro t df ps A K K' hK
  simp only [codeSR,evK_eq,refK_eq _ _ t df]
  exact (OLe.refl _).bn fun s=>OLe.ifb s (iha _ _ _ _ hK) (ihb _ _ _ _ hK)
 | region id ops draw =>
  intro t df ps A K K' hK
  simp only [codeSR]
  split
  ·cases draw
   ·exact opsSR_le hc ops hK _ _ _ _ _
   ·exact OLe.none _
  ·exact codeR_le hM hc J hl _ _ _ _ _ fun o=>hK _
 | _ =>
  intro t df ps A K K' hK
  simp only [codeSR]
  generalize noRf _=b
  cases b
  ·exact OLe.none _
  ·exact codeR_le hM hc J hl _ _ _ _ _ fun o=>hK _
end

def waitB (cs:List D) (k:Nat) (A:St):Option D :=
 match A[k]? with
 | some (.cells cs')=>cond (D.eqbL cs' cs) (some (.ref k 0)) none
 | _=>none
def closeGo (n:Nat):Nat→St→St→Option St
 | 0,_,_=>some []
 | k+1,a::A,b::B=>bn (cond (b.shutB n) (some b) (cond (a.shutB n) (some (b.shut n)) none)) fun s=>bn (closeGo n k A B) fun r=>some (s::r)
 | _+1,_,_=>none
def mN:Mode:=⟨fun A A' x=>cond (keptB A A') x none,fun _ b x=>cond b x none,waitB,fun A A'=>closeGo A.length A.length A A',fun _=>none⟩
open Classical in
theorem closeGo_eq (n:Nat):∀ (k:Nat) (A A' B:St),closeGo n k A A'=some B→B.length=k∧∀ i,i<k→∃ a b,A[i]?=some a∧A'[i]?=some b∧B[i]?=some (if A'[i]?=A[i]? then a else b.shut n):=by
 intro k
 induction k with
 | zero=>intro A A' B h;simp only [closeGo,Option.some.injEq] at h;subst h;exact ⟨rfl,fun i hi=>by omega⟩
 | succ k ih =>
  intro A A' B h
  cases A with
  | nil=>simp [closeGo] at h
  | cons a A =>
   cases A' with
   | nil=>simp [closeGo] at h
   | cons b A' =>
    simp only [closeGo,bn_eq,Option.bind_eq_some_iff,Option.some.injEq] at h
    obtain ⟨s,hs,r,hr,rfl⟩:=h
    obtain ⟨h1,h2⟩:=ih A A' r hr
    refine ⟨by simp [h1],fun i hi=>?_⟩
    cases i with
    | zero =>
     refine ⟨a,b,rfl,rfl, ?_⟩
     simp only [List.getElem?_cons_zero,Option.some.injEq]
     cases hb:b.shutB n with
     | true =>
      rw [hb] at hs
      simp only [cond_true,Option.some.injEq] at hs
      subst hs
      split
      ·rename_i e;exact e
      ·exact (Slot.shutB_eq n b hb).symm
     | false =>
      rw [hb] at hs
      cases ha:a.shutB n with
      | false=>rw [ha] at hs;simp at hs
      | true =>
       rw [ha] at hs
       simp only [cond_true,cond_false,Option.some.injEq] at hs
       subst hs
       rw [if_neg]
       rintro rfl
       rw [ha] at hb
       cases hb
    | succ i =>
     obtain ⟨a',b',q1,q2,q3⟩:=h2 i (by omega)
     exact ⟨a',b',by simpa using q1,by simpa using q2,by simpa using q3⟩
theorem mN_le:MLe mN:=by
 refine ⟨fun A A' x y h r hr=>?_,fun p b x y hp h r hr=>?_,fun cs k A r hr=>?_,fun A A' r hr=>?_,fun x y r hr=>by cases hr⟩
 ·change cond (keptB A A') x none=some r at hr
  cases hk:keptB A A' with
  | false=>rw [hk] at hr;simp at hr
  | true =>
   rw [hk] at hr
   rw [mL_gk,guardP_eq]
   exact ⟨keptB_eq hk,h r hr⟩
 ·change cond b x none=some r at hr
  cases hb:b with
  | false=>rw [hb] at hr;simp at hr
  | true =>
   rw [hb] at hr
   exact guardP_eq.2 ⟨hp hb,h r hr⟩
 ·change waitB cs k A=some r at hr
  unfold waitB at hr
  rw [mL_gw]
  unfold waitO
  rw [guardP_eq]
  split at hr
  ·rename_i cs' hA
   cases he:D.eqbL cs' cs with
   | false=>rw [he] at hr;simp at hr
   | true =>
    rw [he] at hr
    rw [← D.eqbL_eq _ _ he]
    exact ⟨hA,hr⟩
  ·cases hr
 ·change closeGo A.length A.length A A'=some r at hr
  obtain ⟨h1,h2⟩:=closeGo_eq _ _ _ _ _ hr
  rw [mL_cl,Option.some.injEq]
  refine List.ext_getElem? fun i=>?_
  rcases Nat.lt_or_ge i A.length with hi|hi
  ·obtain ⟨a,b,q1,q2,q3⟩:=h2 i hi
   rw [q3]
   simp only [closeSt,List.getElem?_map,List.getElem?_range hi,Option.map_some,Option.some.injEq]
   simp only [List.getD_eq_getElem?_getD,q1,q2,Option.getD_some]
  ·rw [List.getElem?_eq_none (l:=r) (by omega),List.getElem?_eq_none (by rw [closeSt_len];exact hi)]
structure Ev where
 call:CallT
 dcall:DcallT
 lp:LpT
noncomputable def evStep (P:Program) (H:Ext0) (JJ:FuncId→KH) (E:Ev):Ev where
 call f args A:=match Nat.beq f rOff with
  | true=>match args with
   | [.tup [.yld true k],.tup as]=>match A[k]? with
    | some (.loop g t rf .ready)=>match (P.funcs[g]?).map (·.ntmps) with
     | some n=>match Nat.beq n t.length && okC P (H.hint g) (JJ g) rf with
      | true=>roundR mN P H.hint JJ E.call (fun _ _ _ _=>none) g k ⟨t,[]⟩ rf as A
      | false=>none
     | none=>none
    | _=>none
   | _=>none
  | false=>match H.ext f with
   | some x=>x args A
   | none=>match okF P H.hint JJ f with
    | true=>bodyR mN P H.hint JJ E.call E.dcall E.lp f (canA (H.hint f) args) A
    | false=>none
 dcall f args p A:=match f with
  | .fn (.func g) first cap=>match okF P H.hint JJ g with
   | true=>defR mN P H.hint JJ E.call (fun _ _ _ _=>none) g (first++args++cap) p A
   | false=>none
  | _=>none
 lp f q ss e A:=match okF P H.hint JJ f with
  | true=>match (P.funcs[f]?).bind fun fn=>fn.body.map fun c=>lvl c q+1 with
   | some n=>match Nat.beq n ss.length with
    | true=>loopB mN P H.hint JJ E.call E.dcall E.lp f q ss e A
    | false=>none
   | none=>none
  | false=>none
structure EvOk (P:Program) (H:Ext0) (E:Ev):Prop where
 call:∀ f args A,OLe (E.call f args A) (Run P H f args A)
 dcall:∀ f args p A,OLe (E.dcall f args p A) (Dcall P H f args p A)
 lp:∀ f q ss e A,OLe (E.lp f q ss e A) (LP P H f q ss e A)
theorem evStep_ok (P:Program) (H:Ext0) (JJ:FuncId→KH) {E:Ev} (ok:EvOk P H E):EvOk P H (evStep P H JJ E):=by
 refine ⟨fun f args A=>?_,fun f args p A=>?_,fun f q ss e A=>?_⟩
 ·simp only [evStep]
  cases hf:Nat.beq f rOff with
  | true =>
   have hf':=Nat.eq_of_beq_eq_true hf
   subst hf'
   simp only []
   split
   ·rename_i k as
    split
    ·rename_i g t rf hk
     split
     ·rename_i n hn
      cases hb:Nat.beq n t.length && okC P (H.hint g) (JJ g) rf with
      | false=>exact OLe.none _
      | true =>
       simp only [Bool.and_eq_true] at hb
       have hl:=Nat.eq_of_beq_eq_true hb.1
       subst hl
       obtain ⟨lp,h⟩:=Run_roundR P H JJ hb.2 hk hn as
       rw [h]
       unfold roundR
       exact (OLe.refl _).bind fun fn=>roundC_le mN_le ok.call _ (fun _ _ _ _=>OLe.none _) _ _ _ _ _
     ·exact OLe.none _
    ·exact OLe.none _
   ·exact OLe.none _
  | false =>
   simp only []
   cases hx:H.ext f with
   | some x =>
    rw [Run_eq]
    unfold bodyD
    rw [hf,cond_false,hx]
    exact OLe.refl _
   | none =>
    cases hok:okF P H.hint JJ f with
    | false=>exact OLe.none _
    | true =>
     simp only []
     rw [qbk P H JJ hf hx hok]
     unfold bodyR
     refine (OLe.refl _).bind fun fn=>?_
     split
     ·unfold funR
      simp only [mkCx]
      generalize (decide ((canA (H.hint f) args).length≤fn.ntmps) && fn.ntmps == fn.ntmps)=b
      cases b
      ·exact OLe.none _
      ·refine (OLe.refl _).bind fun c=>?_
       simp only [forceK_eq]
       exact codeR_le mN_le ok.call _ (ok.lp f) _ _ _ _ _ fun o=>K0_le mN_le rfl rfl ok.dcall _ _ _
     ·exact OLe.none _
 ·simp only [evStep]
  split
  ·rename_i g first cap
   cases hok:okF P H.hint JJ g with
   | false=>exact OLe.none _
   | true =>
    simp only []
    obtain ⟨lp,h⟩:=Dcall_eqR P H JJ hok first cap args p A
    rw [h]
    unfold defR
    refine (OLe.refl _).bind fun fn=>?_
    split
    ·split
     ·refine (OLe.refl _).bind fun c=>?_
      simp only [forceK_eq]
      refine codeSR_le mN_le ok.call _ (fun _ _ _ _=>OLe.none _) _ _ _ _ _ fun o=>?_
      obtain ⟨ex,⟨t,df⟩,ps,A'⟩:=o
      cases ex with
      | normal=>cases df<;>first|exact (OLe.refl _).bn fun _=>mN_le.gk _ _ _ _ (OLe.refl _)|exact OLe.none _
      | ret=>cases df<;>first|exact (OLe.refl _).bn fun _=>mN_le.gk _ _ _ _ (OLe.refl _)|exact OLe.none _
      | _=>exact OLe.none _
     ·exact OLe.none _
    ·exact OLe.none _
  ·exact OLe.none _
 ·simp only [evStep]
  cases hok:okF P H.hint JJ f with
  | false=>exact OLe.none _
  | true =>
   simp only []
   split
   ·rename_i n hn
    cases hb:Nat.beq n ss.length with
    | false=>exact OLe.none _
    | true =>
     have hl:=Nat.eq_of_beq_eq_true hb
     subst hl
     simp only []
     rw [LP_eq P H JJ hok hn]
     unfold loopB
     refine (OLe.refl _).bind fun fn=>(OLe.refl _).bind fun c0=>?_
     split
     ·simp only [genK_eq]
      exact codeR_le mN_le ok.call _ (ok.lp f) _ _ _ _ _ fun o=>loopK_le mN_le rfl rfl (ok.lp f) _ _ _ (fun o=>contR_le mN_le ok.call _ (ok.lp f) _ (fun A o=>K0_le mN_le rfl rfl ok.dcall _ _ _) _ _ _) _ _
     ·exact OLe.none _
   ·exact OLe.none _
end Go.Vm

/- A run from the empty store,of what is closed,holds at every store. -/
namespace Go.Vm
open Go.RowKit

theorem Inv.below {g:Gh} {A:St} {w w':World} (I:Inv g A w) (h:Below w.heap.size w w'):Ext g w g w'∧Inv g A w':=by
 have hh:∀ b,b<w.heap.size→w'.heap[b]?=w.heap[b]?:=h.block
 have hc:∀ b off,b<w.heap.size→w'.cell? ⟨b,off,none⟩=w.cell? ⟨b,off,none⟩∧w'.frozen? ⟨b,off,none⟩=w.frozen? ⟨b,off,none⟩:=fun b off hb=>cell_of_heap (hh b hb) off
 have E:Ext g w g w':=by
  refine ⟨rfl,⟨h.os,h.tape,h.output,h.size,fun b hb=>hh b (Nat.lt_of_lt_of_le hb I.base)⟩,fun _ _ h=>h,fun b off hs=>(hc b off (I.old b off hs)).1,Nat.le_refl _,fun _ _=>BindLe.refl _⟩
 refine ⟨E,⟨I.len,Nat.le_trans I.base h.size,fun j s hj=>?_,I.sep,I.own,fun b off hs=>Nat.lt_of_lt_of_le (I.old b off hs) h.size⟩⟩
 have hlt:j<g.len:=I.len ▸ (List.getElem?_eq_some_iff.1 hj).1
 exact (I.slot j s hj).keep E (fun b off ho=>hc b off (I.lt hlt ho)) fun l hl=>hh l (I.lt hlt (off:=0) (by rw [hl];rfl))
theorem closed_sound {P:Program} {H:Ext0} (hx:ExtOk P H) {f:FuncId} {b:Bool} {A':St} (h:Run P H f [] []=some (.ret (.bool b),A')) (A:St):Sound P f [] A (.ret (.bool b),A):=by
 intro g w vs I hr
 simp only [RepL] at hr
 subst hr
 let g0:Gh:=⟨w.heap.size,0,fun _=>.none,fun _ _=>False⟩
 have I0:Inv g0 [] w:=⟨rfl,Nat.le_refl _,fun k s hk=>by simp at hk,fun k _ _ _ hk=>by simp [g0] at hk,fun k _ _ hk=>by simp [g0] at hk,fun _ _ hs=>hs.elim⟩
 rcases (Run_sound P H hx f [] [] _ h).1 g0 w [] I0 (by simp [RepL]) with ⟨h1,h2⟩|⟨v,w',g',d,h1,E,_,h2,h3⟩
 ·left
  refine ⟨h1,h2.mono fun e w' ⟨g',E,_,hen⟩=>?_⟩
  obtain ⟨E1,I1⟩:=I.below E.below
  cases e<;>simp only [EndOk] at hen
  rename_i v
  exact ⟨g,E1,I1,by simpa [EndOk,Rep] using hen⟩
 ·right
  obtain ⟨E1,I1⟩:=I.below E.below
  cases h2
  exact ⟨v,w',g,_,h1,E1,I1,rfl,by simpa [Rep] using h3⟩
end Go.Vm
