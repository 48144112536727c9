/- VmR, VmR2 in one text. -/
import Derived.Test.YtagmpieoalkneaaGreatDoorVmDec
set_option linter.all false
/- The run as it is read off: bare reduction leads from a function's code to its text. -/
namespace Go.Vm
open Go.RowKit

variable {β:Type}
def anys:Nat→List D→List D
 | 0,l=>l
 | n+1,l=>.any::anys n l
def sp:List (Nat×D)→Nat→List D
 | [],t=>anys t []
 | (g,d)::r,t=>anys g (d::sp r t)
def bn {α β:Type} (x:Option α) (f:α→Option β):Option β :=
 match x with
 | none=>none
 | some a=>f a
def ifb {β:Type} (c:Bool) (x y:β):β:=cond c x y
@[simp] theorem bn_some {α β:Type} (a:α) (f:α→Option β):bn (some a) f=f a:=rfl
@[simp] theorem bn_none {α β:Type} (f:α→Option β):bn none f=none:=rfl
@[simp] theorem qaq {β:Type} (x y:β):ifb true x y=x:=rfl
@[simp] theorem qak {β:Type} (x y:β):ifb false x y=y:=rfl
@[congr] theorem bn_congr {α β:Type} {x y:Option α} {f:α→Option β} (h:x=y):bn x f=bn y f:=by rw [h]
@[congr] theorem ifb_congr {β:Type} {c d:Bool} {x y:β} (h:c=d):ifb c x y=ifb d x y:=by rw [h]
@[congr] theorem guardP_congr {α:Type} {p q:Prop} {x:Option α} (h:p=q):guardP p x=guardP q x:=by rw [h]
@[simp] theorem qae {α:Type} (x:Option α):guardP True x=x:=if_pos trivial
@[congr] theorem elim_congr {α:Type} {r s:Res} {f g:D→α} (h:r=s):r.elim f g=s.elim f g:=by rw [h]
@[simp] theorem elim_ret {α:Type} (d:D) (f g:D→α):(Res.ret d).elim f g=f d:=rfl
@[simp] theorem elim_pan {α:Type} (d:D) (f g:D→α):(Res.pan d).elim f g=g d:=rfl
theorem bn_eq {α β:Type} (x:Option α) (f:α→Option β):bn x f=x.bind f:=by cases x<;>rfl
def Env.g (e:Env) (k:Nat):D:=e.t.getD k .any
def mp {α β:Type} (x:Option α) (f:α→β):Option β:=x.map f
@[simp] theorem mp_eq {α β:Type} (x:Option α) (f:α→β):mp x f=x.map f:=rfl
def n64 (n:Int):D:=.int .i64 n
abbrev CallT:=FuncId→List D→St→ORes
abbrev DcallT:=D→List D→Option D→St→Option (Option D×St)
def allocO (cs:List D) (A:St):Option (D×St):=some (.ref A.length 0,A++[.cells cs])
def tokO (h:List (Nat×Nat)) (d:D) (A:St):Option (D×St):=some (tokD h d A)
def Out.seqK (o:Out) (f:Env→St→Option β) (K:Out→Option β):Option β :=
 match o.ex with
 | .normal=>f o.env o.st
 | _=>K o
def sLen (A:St):Nat:=A.length
def sApp (A B:St):St:=A++B
def jn {γ:Type} (f:Env→St→γ) (g:(Env→St→γ)→γ):γ:=g f
structure KH where
 J:Operand→Code→Code→Bool
 pan:Nat→List Nat
 loose:Nat→List (Nat×Nat)
def mkHints (tok:List (Nat×List (Nat×Nat))) (live:List (Nat×List Nat)) (keep:List Nat) (ret:RetK) (valApp:Bool:=false) (waitAl:Bool:=false) (canA:Bool:=false) (liveJ:List (Nat×List Nat):=[]):Hints :=
 { tok:=fun t=>(tok.lookup t).getD [],live:=fun r=>live.lookup r,loopKeep:=fun r=>keep.contains r,ret,valApp,waitAl,canA,liveJ:=fun r=>liveJ.lookup r }
def abrupt:Code→Bool
 | .ret|.exit _=>true
 | .seq a b=>abrupt a || abrupt b
 | .cond _ a b=>abrupt a && abrupt b
 | _=>false
def joinText:Operand→Code→Code→Bool:=fun _ a b=>abrupt a || abrupt b
def refine (c:Operand) (b:Bool) (e:Env):Env :=
 match c with
 | .tmp t=>{ e with t:=e.t.set t (.bool b) }
 | _=>e
theorem refine_eq (c:Operand) (b:Bool) (e:Env) (h:(evalO e.t c).bool?=some b):refine c b e=e:=by
 unfold refine
 split
 ·rename_i t
  simp only [evalO] at h
  cases e with
  | mk l df =>
   simp only [Env.mk.injEq,and_true]
   simp only at h
   apply List.ext_getElem?
   intro i
   rw [List.getElem?_set]
   split
   ·rename_i hti
    subst hti
    split
    ·rename_i hl
     rw [List.getElem?_eq_getElem hl]
     rw [List.getD_eq_getElem?_getD,List.getElem?_eq_getElem hl] at h
     simp only [Option.getD_some] at h
     congr 1
     revert h
     cases l[t]<;>simp [D.bool?]
     intro h;exact h.symm
    ·rename_i hl
     rw [List.getElem?_eq_none (by omega)]
   ·rfl
 ·rfl

section
variable {γ:Type}
def getK:List D→Nat→(D→γ)→γ
 | [],_,k=>k undefD
 | d::_,0,k=>k d
 | _::r,i+1,k=>getK r i k
theorem getK_eq:∀ (t:List D) (i:Nat) (k:D→γ),getK t i k=k (t.getD i undefD)
 | [],i,k=>by simp [getK]
 | d::_,0,k=>rfl
 | _::r,i+1,k=>by simp only [getK,getK_eq r i k,List.getD_cons_succ]
def setK:List D→Nat→D→(List D→γ)→γ
 | [],_,_,k=>k []
 | _::r,0,d,k=>k (d::r)
 | x::r,i+1,d,k=>setK r i d fun r=>k (x::r)
theorem setK_eq:∀ (t:List D) (i:Nat) (d:D) (k:List D→γ),setK t i d k=k (t.set i d)
 | [],i,d,k=>rfl
 | _::_,0,d,k=>rfl
 | x::r,i+1,d,k=>by simp only [setK,setK_eq r i d,List.set_cons_succ]
def putK (dst:Option Tmp) (d:D) (t:List D) (k:List D→γ):γ :=
 match dst with
 | some i=>setK t i d k
 | none=>k t
theorem putK_eq (dst:Option Tmp) (d:D) (t:List D) (k:List D→γ):putK dst d t k=k (putD dst d t):=by
 cases dst with
 | none=>rfl
 | some i=>exact setK_eq t i d k
def forceK:List D→(List D→γ)→γ
 | [],k=>k []
 | d::r,k=>forceK r fun r=>k (d::r)
theorem forceK_eq:∀ (t:List D) (k:List D→γ),forceK t k=k t
 | [],k=>rfl
 | d::r,k=>by simp only [forceK,forceK_eq r]
def evK (t:List D) (x:Operand) (k:D→γ):γ :=
 match x with
 | .tmp i=>getK t i k
 | .const v=>k (ofConst v)
 | .global _=>k .any
 | .func f=>k (.fn (.func f) [] [])
theorem evK_eq (t:List D) (x:Operand) (k:D→γ):evK t x k=k (evalO t x):=by
 cases x with
 | tmp i=>exact getK_eq t i k
 | _=>rfl
def evsK (t:List D):List Operand→(List D→γ)→γ
 | [],k=>k []
 | x::r,k=>evK t x fun d=>evsK t r fun ds=>k (d::ds)
theorem evsK_eq (t:List D):∀ (xs:List Operand) (k:List D→γ),evsK t xs k=k (xs.map (evalO t))
 | [],k=>rfl
 | x::r,k=>by simp only [evsK,evK_eq,evsK_eq t r,List.map_cons]
def evoK (t:List D) (x:Option Operand) (k:Option D→γ):γ :=
 match x with
 | none=>k none
 | some x=>evK t x fun d=>k (some d)
theorem evoK_eq (t:List D) (x:Option Operand) (k:Option D→γ):evoK t x k=k (x.map (evalO t)):=by
 cases x with
 | none=>rfl
 | some x=>exact evK_eq t x _
def evpK (t:List D):List (Nat×Operand)→(List (Nat×D)→γ)→γ
 | [],k=>k []
 | (i,x)::r,k=>evK t x fun d=>evpK t r fun ds=>k ((i,d)::ds)
theorem evpK_eq (t:List D):∀ (xs:List (Nat×Operand)) (k:List (Nat×D)→γ),evpK t xs k=k (xs.map fun p=>(p.1,evalO t p.2))
 | [],k=>rfl
 | (i,x)::r,k=>by simp only [evpK,evK_eq,evpK_eq t r,List.map_cons]
end
section
variable {γ:Type}
def ifcR (P:Program) (t:TypeId):Bool :=
 match P.underlying t with
 | some (.interface _)=>true
 | some _=>false
 | none=>true
def buildSliceR (P:Program) (t:TypeId) (len:Nat) (parts:List (Nat×D)):Option D :=
 (elemOf P t).bind fun r=>if parts.length=len∧len * r.2.1≤16777216∧(tyZero P r.1).isSome then mp (sliceParts r.2.1 r.2.2 0 parts) (.sl .full r.2.1) else none
def fillR (P:Program) (fs:Array Field) (cs:List D):List (Nat×D)→Option (List D)
 | []=>some cs
 | (i,d)::r=>(fs[i]?).bind fun f=>(tySize P f.type).bind fun n=>(tyAgg P f.type).bind fun g=>bn (layCells g n f.offset cs d) fun cs'=>fillR P fs cs' r
theorem fillR_eq (P:Program) (fs:Array Field):∀ (r:List (Nat×D)) (cs:List D),fillR P fs cs r=fillD P fs cs r
 | [],cs=>rfl
 | (i,d)::r,cs=>by simp only [fillR,fillD,bn_eq,fillR_eq P fs r]
def buildR (P:Program) (t:TypeId) (parts:List (Nat×D)):Option D :=
 (P.underlying t).bind fun
  | .struct fs=>(tyZero P t).bind fun z=>if fs.toList.all (fun f=>(P.info? f.type).isSome) then mp (fillR P fs (z.cells.toList.map ofCell) parts) .agg else none
  | _=>none
def ifaceR (P:Program) (t:TypeId) (a:D):Option D:=(P.underlying t).bind fun|.interface _=>none|_=>some (.iface t a)
def totK (P:Program) (t:List D) (op:Op) (k:D→γ) (k':γ):γ :=
 match op with
 | .move x|.assign x=>evK t x k
 | .makeFunc f first cap=>evsK t first.toList fun a=>evsK t cap.toList fun b=>k (.fn f a b)
 | .makeInterface ty x=>match ifcR P ty with
  | true=>k'
  | false=>evK t x fun a=>k (.iface ty a)
 | _=>k'
theorem totK_eq (P:Program) (t:List D) (op:Op) (k:D→γ) (k':γ):totK P t op k k'=k'∨∃ d,totK P t op k k'=k d∧pureD P t op=some d∧opK P op=.pure:=by
 unfold totK
 split
 ·exact .inr ⟨_,evK_eq _ _ _,rfl,rfl⟩
 ·exact .inr ⟨_,evK_eq _ _ _,rfl,rfl⟩
 ·exact .inr ⟨_,by rw [evsK_eq,evsK_eq],rfl,rfl⟩
 ·rename_i ty x
  cases hi:ifcR P ty with
  | true=>exact .inl rfl
  | false =>
   refine .inr ⟨_,evK_eq _ _ _, ?_,rfl⟩
   simp only [pureD]
   unfold ifcR at hi
   cases hu:P.underlying ty with
   | none=>rw [hu] at hi;cases hi
   | some u=>rw [hu] at hi;cases u<;>first|rfl|cases hi
 ·exact .inl rfl
def eqKS {P:Program} (t:TypeId):Nat:=eqKind P t
def eqKR (P:Program) (t:TypeId):Nat :=
 match P.underlying t with
 | some (.struct _)=>eqKS (P:=P) t
 | _=>eqKind P t
theorem eqKR_eq (P:Program) (t:TypeId):eqKR P t=eqKind P t:=by
 unfold eqKR
 split<;>rfl
def binR (P:Program) (op:BinOp) (t:TypeId) (lit:Bool) (x y:D):Option D:=binO op (eqKR P t) lit x y
theorem binR_eq (P:Program) (op:BinOp) (t:TypeId) (lit:Bool) (x y:D):binR P op t lit x y=binD P op t lit x y:=by
 unfold binR binD
 rw [eqKR_eq]
def pureK (P:Program) (t:List D) (op:Op) (k:Option D→γ):γ :=
 match op with
 | .move x|.assign x=>evK t x fun a=>k (some a)
 | .makeInterface ty x=>evK t x fun a=>k (ifaceR P ty a)
 | .makeFunc f first cap=>evsK t first.toList fun a=>evsK t cap.toList fun b=>k (some (.fn f a b))
 | .pick c a b=>evK t c fun c=>evK t a fun a=>evK t b fun b=>k (mp (D.bool? c) fun s=>ifb s a b)
 | .build ty ps=>evpK t ps.toList fun ps=>k (buildR P ty ps)
 | .nilCheck x=>evK t x fun a=>k (nilCheckD a)
 | .binOp op ty x y _=>evK t x fun a=>evK t y fun b=>k (binR P op ty (isLit x || isLit y) a b)
 | .unOp op _ x=>evK t x fun a=>k (unD op a)
 | .convert s d x=>evK t x fun a=>k (convD P s d a)
 | .slice ty x lo hi mx=>evK t x fun a=>evoK t lo fun lo=>evoK t hi fun hi=>evoK t mx fun mx=>k (sliceD P ty a lo hi mx)
 | .fieldAddr ty x f=>evK t x fun a=>k (fieldAddrD P ty a f)
 | .field ty x f=>evK t x fun a=>k (fieldD P ty a f)
 | .indexAddr ty x i=>evK t x fun a=>evK t i fun b=>k (indexAddrD P ty a b)
 | .index ty x i=>evK t x fun a=>evK t i fun b=>k (indexD P ty a b)
 | .typeAssert x _ a ok=>evK t x fun b=>k (assertD P b a ok)
 | .extract x i=>evK t x fun a=>k (extractD a i)
 | .call { callee:=.builtin b,args,argTypes }=>evsK t args.toList fun xs=>k (pureBuiltin P b argTypes.toList xs)
 | op=>k (pureD P t op)
theorem pureK_eq (P:Program) (t:List D) (op:Op) (k:Option D→γ):pureK P t op k=k (pureD P t op):=by
 have hb:∀ ty ps,buildR P ty ps=buildD P ty ps:=fun ty ps=>by simp only [buildR,buildD,fillR_eq,mp_eq,Array.all_toList];rfl
 cases op
 case call c =>
  obtain ⟨callee,args,ts⟩:=c
  cases callee<;>simp only [pureK,pureD,evsK_eq]
 all_goals (simp only [pureK,pureD,evK_eq,evsK_eq,evoK_eq,evpK_eq,mp_eq,ifb,hb,ifaceR,binR_eq];try rfl)
def cellB:D→Bool
 | .any|.agg _|.tup _=>false
 | _=>true
def allB:List D→Bool
 | []=>true
 | d::r=>match cellB d with
  | true=>allB r
  | false=>false
theorem allB_eq:∀ cs:List D,allB cs=allCells cs
 | []=>rfl
 | d::r=>by
  have:=allB_eq r
  unfold allCells at this ⊢
  rw [List.all_cons,← this]
  cases d<;>first|rfl|exact (Bool.true_and _).symm
def keyK {P:Program} (t:TypeId):Option KT:=keyKind P t
def makeMapR (kt:KT) (A:St):Option (D×St):=some (makeMapO kt A)
def worldK (P:Program) (h:List (Nat×Nat)) (t:List D) (op:Op) (A:St) (k:Option (D×St)→γ):γ :=
 match op with
 | .load ty a=>evK t a fun a=>k (mp (loadD P ty a A) fun d=>(d,A))
 | .store ty a v=>evK t a fun a=>evK t v fun v=>k (mp (storeD P ty a v A) fun A'=>(undefD,A'))
 | .alloc ty=>k ((tyZero P ty).bind fun z=>match allB (z.cells.toList.map ofCell) with|true=>allocO (z.cells.toList.map ofCell) A|false=>none)
 | .box ty x=>evK t x fun a=>k ((tyAgg P ty).bind fun g=>boxO g a A)
 | .buildSlice ty n ps=>evpK t ps.toList fun ps=>match hintLit h with
  | true=>k (litD P ty n ps A)
  | false=>k (mp (buildSliceR P ty n ps) fun d=>(d,A))
 | .makeSlice ty l c=>evK t l fun l=>evK t c fun c=>k (makeSliceD P ty l c A)
 | .convert s d x=>evK t x fun a=>k (mp (bytesConvD P s d a) fun d=>(d,A))
 | .call { callee:=.builtin .append,args,argTypes }=>evsK t args.toList fun xs=>match xs with
  | [x,y]=>k (appendD P argTypes.toList x y A)
  | _=>k none
 | .makeMap ty h'=>evoK t h' fun x=>k ((tyMap P ty).bind fun r=>(keyK (P:=P) r.1).bind fun kt=>(optInt x).bind fun _=>makeMapR kt A)
 | .lookup ty m q ok=>evK t m fun m=>evK t q fun q=>k ((tyMap P ty).bind fun r=>(keyK (P:=P) r.1).bind fun kt=>(tyZero P r.2).bind fun z=>mp (mapGetO kt (ofConst z) ok m q A) fun d=>(d,A))
 | .mapUpdate ty m q v|.insert ty m q v=>evK t m fun m=>evK t q fun q=>evK t v fun v=>k ((tyMap P ty).bind fun r=>(keyK (P:=P) r.1).bind fun kt=>mapPutO kt m q v A)
 | .mapEntry ty m q=>evK t m fun m=>evK t q fun q=>k ((tyMap P ty).bind fun r=>(keyK (P:=P) r.1).bind fun kt=>(tyZero P r.2).bind fun z=>mapEntryO kt (ofConst z) m q A)
 | .entryStore _ m s v=>evK t m fun m=>evK t s fun s=>evK t v fun v=>k (entryStoreO m s v A)
 | .call { callee:=.builtin .delete,args,argTypes }=>evsK t args.toList fun xs=>match xs,argTypes.toList with
  | [x,y],ty::_=>k ((tyMap P ty).bind fun r=>(keyK (P:=P) r.1).bind fun kt=>mapDelO kt x y A)
  | _,_=>k none
 | .call { callee:=.builtin .len,args,argTypes }=>evsK t args.toList fun xs=>match xs with
  | [x]=>k ((mapTy P argTypes.toList).bind fun _=>mp (mapLenO x A) fun d=>(d,A))
  | _=>k none
 | op=>k (worldD P t op A)
theorem worldK_eq (P:Program) (h:List (Nat×Nat)) (t:List D) (op:Op) (A:St) (k:Option (D×St)→γ):worldK P h t op A k=k (worldH P h t op A):=by
 have hb:∀ ty n ps,buildSliceR P ty n ps=buildSliceD P ty n ps:=fun ty n ps=>rfl
 unfold worldH
 cases op
 case call c =>
  obtain ⟨callee,args,ts⟩:=c
  cases callee with
  | builtin b =>
   cases b
   case append =>
    simp only [worldK,evsK_eq]
    cases hintLit h<;>(simp only [worldD];generalize args.toList=l;cases l with
     | nil=>rfl
     | cons x r=>cases r with
      | nil=>rfl
      | cons y s=>cases s<;>rfl)
   case delete =>
    simp only [worldK,evsK_eq]
    cases hintLit h<;>(simp only [worldD];generalize args.toList=l;generalize ts.toList=q;cases l with
     | nil=>rfl
     | cons x r=>cases r with
      | nil=>rfl
      | cons y s=>cases s<;>cases q<;>rfl)
   case len =>
    simp only [worldK,evsK_eq]
    cases hintLit h<;>(simp only [worldD,mp_eq];generalize args.toList=l;cases l with
     | nil=>rfl
     | cons x r=>cases r<;>rfl)
   all_goals (simp only [worldK];cases hintLit h<;>rfl)
  | _=>simp only [worldK];cases hintLit h<;>rfl
 case alloc ty =>
  have:∀ (z:Value),(match allB (z.cells.toList.map ofCell) with|true=>allocO (z.cells.toList.map ofCell) A|false=>none)=if allCells (z.cells.toList.map ofCell) then some (allocD (z.cells.toList.map ofCell) A) else none:=fun z=>by
   rw [allB_eq]
   cases allCells (z.cells.toList.map ofCell)<;>rfl
  simp only [worldK,worldD,this]
  cases hintLit h<;>rfl
 case makeMap ty r =>
  have:∀ (o:Option D),((tyMap P ty).bind fun r=>(keyK (P:=P) r.1).bind fun kt=>(optInt o).bind fun _=>makeMapR kt A)=(tyMap P ty).bind fun r=>(keyK (P:=P) r.1).bind fun kt=>(optInt o).map fun _=>makeMapO kt A:=fun o=>by
   congr 1;funext r;congr 1;funext kt;cases optInt o<;>rfl
  simp only [worldK,worldD,mapD,evoK_eq,this]
  cases hintLit h<;>rfl
 all_goals (simp only [worldK,worldD,mapD,evK_eq,evpK_eq,mp_eq,hb];cases hintLit h<;>rfl)
def callK (call:CallT) (t:List D) (op:Op) (A:St) (k:ORes→γ):γ :=
 match op with
 | .call { callee:=.value (.func g),args,.. }=>evsK t args.toList fun xs=>k (call g xs A)
 | .call { callee:=.value f,args,.. }=>evK t f fun f=>evsK t args.toList fun xs=>k (applyD call f xs A)
 | .call { callee:=.builtin .panic,args,.. }=>evsK t args.toList fun xs=>match xs with
  | [x]=>k (mp (panicD x) fun r=>(r,A))
  | _=>k none
 | .panic x=>evK t x fun x=>k (mp (panicD x) fun r=>(r,A))
 | _=>k none
theorem callK_eq (call:CallT) (t:List D) (op:Op) (A:St) (k:ORes→γ):callK call t op A k=k (callD call t op A):=by
 cases op<;>try rfl
 case call c =>
  obtain ⟨callee,args,ts⟩:=c
  cases callee with
  | value f=>cases f<;>simp only [callK,callD,evalO,applyD,evK_eq,evsK_eq,List.nil_append,List.append_nil]
  | builtin b =>
   cases b<;>try rfl
   simp only [callK,callD,evsK_eq]
   cases args.toList with
   | nil=>rfl
   | cons x r=>cases r<;>rfl
  | _=>rfl
 case panic x=>simp only [callK,callD,evK_eq];rfl
def deferO (f:D) (args:List D):Option (D×List D) :=
 match f with
 | .fn a b c=>some (.fn a b c,args)
 | _=>none
def deferK (t:List D) (op:Op) (k:Option (D×List D)→γ):γ :=
 match op with
 | .defer { callee:=.value f,args,.. }=>evK t f fun f=>evsK t args.toList fun xs=>k (deferO f xs)
 | _=>k none
theorem deferK_eq (t:List D) (op:Op) (k:Option (D×List D)→γ):deferK t op k=k (deferD t op):=by
 cases op<;>try rfl
 rename_i c
 obtain ⟨callee,args,ts⟩:=c
 cases callee<;>try rfl
 simp only [deferK,evK_eq,evsK_eq,deferD]
 rfl
def guardK (ops:Array Oper) (t:List D) (g:Nat×Bool) (k:Option Bool→γ):γ :=
 match (ops[g.1]?).bind (·.dst) with
 | some i=>getK t i fun d=>k (guardB g.2 d)
 | none=>k (some false)
theorem guardK_eq {ops:Array Oper} {t:List D} {o:Oper} {g:Nat×Bool} (h:o.guard=some g) (k:Option Bool→γ):guardK ops t g k=k (wantedD ops t o):=by
 unfold guardK wantedD
 rw [h]
 simp only [getK_eq]
 cases (ops[g.1]?).bind (·.dst)<;>rfl
theorem wanted_none {ops:Array Oper} {t:List D} {o:Oper} (h:o.guard=none):wantedD ops t o=some true:=by
 unfold wantedD;rw [h]
def tokR (h:List (Nat×Nat)) (d:D) (A:St) (k:D→St→Option β):Option β :=
 match h with
 | []=>k d A
 | p::r=>bn (tokO (p::r) d A) fun x=>k x.1 x.2
theorem tokR_eq (h:List (Nat×Nat)) (d:D) (A:St) (k:D→St→Option β):tokR h d A k=k (tokD h d A).1 (tokD h d A).2:=by
 cases h<;>rfl
end
def opsR (P:Program) (h:Hints) (call:CallT) (ops:Array Oper):List Oper→List D→List (D×List D)→St→(Out→Option β)→Option β
 | [],t,df,A,K=>K ⟨.normal,⟨t,df⟩,A⟩
 | o::os,t,df,A,K =>
  match o.guard with
  | none =>
   match opK P o.op with
   | .pure=>totK P t o.op (fun d=>tokR (hintOf h o.dst) d A fun d A=>putK o.dst d t fun t=>opsR P h call ops os t df A K)
     (pureK P t o.op fun x=>bn x fun d=>tokR (hintOf h o.dst) d A fun d A=>putK o.dst d t fun t=>opsR P h call ops os t df A K)
   | .world=>worldK P (hintOf h o.dst) t o.op A fun x=>bn x fun r=>tokR (hintOf h o.dst) r.1 r.2 fun d A=>putK o.dst d t fun t=>opsR P h call ops os t df A K
   | .call=>callK call t o.op A fun x=>bn x fun r =>
     r.1.elim (fun d=>putK o.dst d t fun t=>opsR P h call ops os t df r.2 K) (fun p=>K ⟨.pan p,⟨t,df⟩,r.2⟩)
   | .defer=>deferK t o.op fun x=>bn x fun d=>putK o.dst undefD t fun t=>opsR P h call ops os t (d::df) A K
   | .bad=>none
  | some g=>guardK ops t g fun w=>bn w fun w =>
   match opK P o.op with
   | .pure=>pureK P t o.op fun x=>bn (ifb w x (some undefD)) fun d=>tokR (hintOf h o.dst) d A fun d A=>putK o.dst d t fun t=>opsR P h call ops os t df A K
   | .world=>worldK P (hintOf h o.dst) t o.op A fun x=>bn (ifb w x (some (undefD,A))) fun r=>tokR (hintOf h o.dst) r.1 r.2 fun d A=>putK o.dst d t fun t=>opsR P h call ops os t df A K
   | .call=>callK call t o.op A fun x=>bn (ifb w x (some (.ret undefD,A))) fun r =>
     r.1.elim (fun d=>putK o.dst d t fun t=>opsR P h call ops os t df r.2 K) (fun p=>K ⟨.pan p,⟨t,df⟩,r.2⟩)
   | .defer=>ifb w (deferK t o.op fun x=>bn x fun d=>putK o.dst undefD t fun t=>opsR P h call ops os t (d::df) A K) none
   | .bad=>none
theorem opsR_eq (X:Cx) (ops:Array Oper) (K:Out→Option β):∀ (os:List Oper) (t:List D) (df:List (D×List D)) (A:St),opsR X.P X.h X.call ops os t df A K=(opsD X ops os ⟨t,df⟩ A).bind K
 | [],t,df,A=>rfl
 | o::os,t,df,A=>by
  have ih:=opsR_eq X ops K os
  simp only [opsR,opsD,putK_eq,tokR_eq,pureK_eq,worldK_eq,callK_eq,deferK_eq,bn_eq,ih]
  cases hg:o.guard with
  | none =>
   rw [wanted_none hg,Option.bind_some]
   simp only []
   cases hk:opK X.P o.op with
   | pure =>
    simp only [cond_true]
    rcases totK_eq X.P t o.op (fun d=>(opsD X ops os ⟨putD o.dst (tokD (hintOf X.h o.dst) d A).1 t,df⟩ (tokD (hintOf X.h o.dst) d A).2).bind K)
     ((pureD X.P t o.op).bind fun d=>(opsD X ops os ⟨putD o.dst (tokD (hintOf X.h o.dst) d A).1 t,df⟩ (tokD (hintOf X.h o.dst) d A).2).bind K) with h1|⟨d,h1,h2,h3⟩
    ·rw [h1,Option.bind_assoc]
    ·rw [h1,h2];rfl
   | world=>simp only [cond_true,Option.bind_assoc]
   | call =>
    simp only [cond_true,Option.bind_assoc]
    congr 1;funext r
    cases r.1<;>rfl
   | defer=>simp only [cond_true,Option.bind_assoc]
   | bad=>rfl
  | some g =>
   simp only [guardK_eq hg,Option.bind_assoc]
   congr 1;funext w
   cases hk:opK X.P o.op with
   | pure=>simp only [ifb,Option.bind_assoc]
   | world=>simp only [ifb,Option.bind_assoc]
   | call =>
    simp only [ifb,Option.bind_assoc]
    congr 1;funext r
    cases r.1<;>rfl
   | defer =>
    simp only [ifb]
    cases w
    ·rfl
    ·simp only [cond_true,Option.bind_assoc]
   | bad=>rfl
end Go.Vm

/- Regions that draw their order,as they are read off. -/
namespace Go.Vm
open Go.RowKit

variable {β:Type}
structure Mode where
 gk:{α:Type}→St→St→Option α→Option α
 gs:{α:Type}→Prop→Bool→Option α→Option α
 gw:List D→Nat→St→Option D
 cl:St→St→Option St
 fb:{α:Type}→Option α→Option α
noncomputable def mL:Mode:=⟨fun A A' x=>guardP (Kept A A') x,fun p _ x=>guardP p x,waitO,fun A A'=>some (closeSt A A'),fun x=>x⟩
def gkM (M:Mode) {α:Type} (A A':St) (x:Option α):Option α:=M.gk A A' x
def gwM (M:Mode) (cs:List D) (k:Nat) (A:St):Option D:=M.gw cs k A
def clM (M:Mode) (A A':St):Option St:=M.cl A A'
def fbM (M:Mode) {α:Type} (x:Option α):Option α:=M.fb x
def slotEqB:Option Slot→Option Slot→Bool
 | some (.cells a),some (.cells b)=>D.eqbL a b
 | none,none=>true
 | _,_=>false
theorem slotEqB_eq {x y:Option Slot} (h:slotEqB x y=true):x=y:=by
 unfold slotEqB at h
 split at h
 ·rw [D.eqbL_eq _ _ h]
 ·rfl
 ·cases h
def sameAdB (ad:D) (A A':St):Bool :=
 match ad with
 | .ref k _=>slotEqB A[k]? A'[k]?
 | .tup ds=>match adVal ds A,adVal ds A' with
  | some x,some y=>D.eqb x y
  | _,_=>false
 | _=>true
theorem sameAdB_eq {ad:D} {A A':St} (h:sameAdB ad A A'=true):sameAd ad A A':=by
 unfold sameAdB at h
 unfold sameAd
 split
 ·exact slotEqB_eq h
 ·rename_i ds
  dsimp only at h
  split at h
  ·rename_i x y hx hy
   rw [hx,hy,D.eqb_eq _ _ h]
  ·cases h
 ·trivial
def smP:List (D×St×St)→Prop
 | []=>True
 | x::r=>sameAd x.1 x.2.1 x.2.2∧smP r
def smB:List (D×St×St)→Bool
 | []=>true
 | x::r=>sameAdB x.1 x.2.1 x.2.2 && smB r
theorem smB_eq:∀ {l:List (D×St×St)},smB l=true→smP l
 | [],_=>trivial
 | x::r,h=>by
  simp only [smB,Bool.and_eq_true] at h
  exact ⟨sameAdB_eq h.1,smB_eq h.2⟩
def gsM (M:Mode) {α:Type} (l:List (D×St×St)) (x:Option α):Option α:=M.gs (smP l) (smB l) x
@[simp] theorem mL_gk {α:Type} (A A':St) (x:Option α):gkM mL A A' x=guardP (Kept A A') x:=rfl
@[simp] theorem mL_gw (cs:List D) (k:Nat) (A:St):gwM mL cs k A=waitO cs k A:=rfl
@[simp] theorem mL_cl (A A':St):clM mL A A'=some (closeSt A A'):=rfl
@[simp] theorem mL_gs0 {α:Type} (x:Option α):gsM mL [] x=x:=qae x
@[simp] theorem mL_gs1 {α:Type} (ad:D) (A A':St) (r:List (D×St×St)) (x:Option α):gsM mL ((ad,A,A')::r) x=guardP (sameAd ad A A') (gsM mL r x):=by
 unfold gsM mL
 simp only [smP]
 unfold guardP
 by_cases h:sameAd ad A A'<;>by_cases k:smP r<;>simp [h,k]

def bareX (P:Program) (h:Hints):Cx:=⟨P,h,fun _ _ _=>none,fun _ _ _=>none,0,0⟩
section
variable {γ:Type}
def valK (P:Program) (t:List D) (op:Op) (k:Option D→γ):γ :=
 match opK P op with
 | .pure=>pureK P t op k
 | _=>match op with
  | .call _=>worldK P [] t op [] fun x=>k (bn x fun r=>shV r.1)
  | _=>worldK P [] t op [] fun x=>k (mp x fun r=>r.1)
theorem valK_eq (P:Program) (t:List D) (op:Op) (k:Option D→γ):valK P t op k=k (valD P t op):=by
 unfold valK valD
 cases opK P op
 case pure=>exact pureK_eq P t op k
 all_goals
  simp only []
  cases op<;>simp only [bn_eq,worldK_eq,mp_eq]<;>rfl
def loadK (P:Program) (t:List D) (op:Op) (A:St) (k:Option D→D→γ):γ :=
 match op with
 | .load ty a=>evK t a fun a=>k (loadD P ty a A) a
 | .lookup ty m q ok=>evK t m fun m=>evK t q fun q=>k ((tyMap P ty).bind fun r=>(keyK (P:=P) r.1).bind fun kt=>(tyZero P r.2).bind fun z=>mapGetO kt (ofConst z) ok m q A)
   (match (tyMap P ty).bind fun r=>tyZero P r.2 with|some z=>.tup [m,q,ofConst z,.bool ok]|none=>.any)
 | .call { callee:=.builtin .len,args,argTypes }=>evsK t args.toList fun xs=>match xs with
  | [x]=>k ((mapTy P argTypes.toList).bind fun _=>mapLenO x A) (.tup [x])
  | _=>k none .any
 | _=>k none .any
theorem loadK_eq {P:Program} {h:Hints} {t:List D} {op:Op} {A:St} (hk:drK (bareX P h) op=.load) (k:Option D→D→γ):loadK P t op A k=k ((worldD P t op A).map (·.1)) (loadAddr P t op):=by
 unfold drK at hk
 split at hk
 ·cases hk
 ·split at hk
  ·simp only [loadK,worldD,evK_eq,loadAddr];congr 1;cases loadD P _ _ A<;>rfl
  ·simp only [loadK,worldD,mapD,evK_eq,loadAddr,Option.map_bind,Option.map_map,Function.comp_def]
   congr 1
   congr 1;funext r;congr 1;funext kt;congr 1;funext z
   cases mapGetO kt (ofConst z) _ _ _ A<;>rfl
  ·rename_i args ts _
   simp only [loadK,worldD,evsK_eq,loadAddr]
   generalize args.toList=l
   cases l with
   | nil=>rfl
   | cons x r =>
    cases r with
    | cons y s=>rfl
    | nil =>
     simp only [List.map_cons,List.map_nil,Option.map_bind,Function.comp_def,Option.map_map]
     congr 1
     congr 1;funext r
     cases mapLenO _ A<;>rfl
  all_goals (try (cases hk;done))
  ·revert hk;cases (bareX P h).h.valApp<;>intro hk<;>cases hk
  ·revert hk;cases (bareX P h).h.waitAl<;>intro hk<;>cases hk
 ·cases hk
 ·cases hk
end
def zeroR (P:Program):Op→Option (List D)
 | .alloc t=>(tyZero P t).bind fun z=>match allB (z.cells.toList.map ofCell) with|true=>some (z.cells.toList.map ofCell)|false=>none
 | _=>none
theorem zeroR_eq (P:Program) (op:Op):zeroR P op=zeroCs P op:=by
 cases op<;>try rfl
 simp only [zeroR,zeroCs,allB_eq]
 congr 1;funext z
 cases allCells (z.cells.toList.map ofCell)<;>rfl
def waitR (M:Mode) (P:Program) (op:Op) (k:Nat) (A:St):Option D:=(zeroR P op).bind fun cs=>gwM M cs k A
theorem waitR_eq (P:Program) (op:Op) (k:Nat) (A:St):waitR mL P op k A=waitD P op k A:=by
 unfold waitR waitD;rw [zeroR_eq];rfl
def adR (w:Bool) (d:D):D:=ifb w d .any
def traceR (M:Mode) (P:Program) (h:Hints) (call:CallT) (ops:Array Oper):List Oper→Nat→List D→St→List TStep→(List TStep→List D→St→Option D→Option β)→Option β
 | [],_,t,A,acc,K=>K acc t A none
 | o::os,k,t,A,acc,K =>
  match o.guard with
  | none =>
   match drK (bareX P h) o.op with
   | .val=>totK P t o.op (fun d=>putK o.dst d t fun t=>traceR M P h call ops os k t A (⟨true,d,.any,A,A⟩::acc) K)
     (valK P t o.op fun x=>bn x fun d=>putK o.dst d t fun t=>traceR M P h call ops os k t A (⟨true,d,.any,A,A⟩::acc) K)
   | .load=>loadK P t o.op A fun x ad=>bn x fun d=>putK o.dst d t fun t=>traceR M P h call ops os k t A (⟨true,d,ad,A,A⟩::acc) K
   | .wait=>bn (waitR M P o.op k A) fun d=>putK o.dst d t fun t=>traceR M P h call ops os (k+1) t A (⟨true,d,.ref k 0,A,A⟩::acc) K
   | .eff=>match opK P o.op with
    | .call=>callK call t o.op A fun x=>bn x fun x =>
      x.1.elim (fun d=>putK o.dst d t fun t=>traceR M P h call ops os k t x.2 (⟨true,d,.any,A,x.2⟩::acc) K)
       (fun p=>putK o.dst .any t fun t=>K (⟨true,.any,.any,A,x.2⟩::acc) t x.2 (some p))
    | _=>worldK P [] t o.op A fun x=>bn x fun x=>putK o.dst x.1 t fun t=>traceR M P h call ops os k t x.2 (⟨true,x.1,.any,A,x.2⟩::acc) K
   | .bad=>none
  | some g=>guardK ops t g fun w=>bn w fun w =>
   match drK (bareX P h) o.op with
   | .val=>valK P t o.op fun x=>bn (ifb w x (some undefD)) fun d=>putK o.dst d t fun t=>traceR M P h call ops os k t A (⟨w,d,.any,A,A⟩::acc) K
   | .load=>loadK P t o.op A fun x ad=>bn (ifb w x (some undefD)) fun d=>putK o.dst d t fun t=>traceR M P h call ops os k t A (⟨w,d,adR w ad,A,A⟩::acc) K
   | .wait=>bn (ifb w (waitR M P o.op k A) (some undefD)) fun d=>putK o.dst d t fun t=>traceR M P h call ops os (k+1) t A (⟨w,d,adR w (.ref k 0),A,A⟩::acc) K
   | .eff=>match opK P o.op with
    | .call=>callK call t o.op A fun x=>bn (ifb w x (some (.ret undefD,A))) fun x =>
      x.1.elim (fun d=>putK o.dst d t fun t=>traceR M P h call ops os k t x.2 (⟨w,d,.any,A,x.2⟩::acc) K)
       (fun p=>putK o.dst .any t fun t=>K (⟨w,.any,.any,A,x.2⟩::acc) t x.2 (some p))
    | _=>worldK P [] t o.op A fun x=>bn (ifb w x (some (undefD,A))) fun x=>putK o.dst x.1 t fun t=>traceR M P h call ops os k t x.2 (⟨w,x.1,.any,A,x.2⟩::acc) K
   | .bad=>none
theorem bind_map' {α γ:Type} (x:Option α) (f:α→γ) (g:γ→Option β):(x.map f).bind g=x.bind fun a=>g (f a):=by cases x<;>rfl
def lastA (T:List TStep) (A:St):St:=(T.getLast?.map (·.A')).getD A
theorem lastA_cons (s:TStep) (T:List TStep) (A:St):lastA (s::T) A=lastA T s.A':=by
 unfold lastA
 cases T with
 | nil=>rfl
 | cons a T=>rw [List.getLast?_cons_cons];cases h:(a::T).getLast? with
  | none=>simp at h
  | some y=>rfl
theorem drK_bare (X:Cx) (op:Op):drK X op=drK (bareX X.P X.h) op:=rfl
theorem totK_val {γ:Type} (P:Program) (t:List D) (op:Op) (k:D→γ) (k':γ):totK P t op k k'=k'∨∃ d,totK P t op k k'=k d∧valD P t op=some d:=by
 rcases totK_eq P t op k k' with h|⟨d,h1,h2,h3⟩
 ·exact .inl h
 ·refine .inr ⟨d,h1, ?_⟩
  unfold valD
  rw [h3]
  exact h2
theorem traceR_eq (X:Cx) (ops:Array Oper) (K:List TStep→List D→St→Option D→Option β):∀ (os:List Oper) (k:Nat) (e:List D) (A:St) (acc:List TStep),
  traceR mL X.P X.h X.call ops os k e A acc K=(traceD X ops os k e A).bind fun r=>K (r.1.reverse++acc) (foldEnv (os.zip r.1) e) (lastA r.1 A) r.2
 | [],k,e,A,acc=>by simp [traceR,traceD,foldEnv,lastA]
 | o::os,k,e,A,acc=>by
  have ih:=fun k e A acc=>traceR_eq X ops K os k e A acc
  have key:∀ (w:Bool) (x:Option D) (k':Nat) (ad:D),(x.bind fun d=>traceR mL X.P X.h X.call ops os k' (putD o.dst d e) A (⟨w,d,ad,A,A⟩::acc) K) =
    (x.bind fun d=>(traceD X ops os k' (putD o.dst d e) A).map fun r=>((⟨w,d,ad,A,A⟩::r.1:List TStep),r.2)).bind fun r=>K (r.1.reverse++acc) (foldEnv ((o::os).zip r.1) e) (lastA r.1 A) r.2:=by
   intro w x k' ad
   rw [Option.bind_assoc]
   congr 1;funext d
   rw [ih,bind_map']
   congr 1;funext r
   simp [lastA_cons,foldEnv]
  have keyC:∀ (w:Bool) (x:ORes),(x.bind fun x=>x.1.elim (fun d=>traceR mL X.P X.h X.call ops os k (putD o.dst d e) x.2 (⟨w,d,.any,A,x.2⟩::acc) K)
            (fun p=>K (⟨w,.any,.any,A,x.2⟩::acc) (putD o.dst .any e) x.2 (some p))) =
    (x.bind fun x=>x.1.elim (fun d=>(traceD X ops os k (putD o.dst d e) x.2).map fun r=>((⟨w,d,.any,A,x.2⟩::r.1:List TStep),r.2)) (fun p=>some ([⟨w,.any,.any,A,x.2⟩],some p))).bind
     fun r=>K (r.1.reverse++acc) (foldEnv ((o::os).zip r.1) e) (lastA r.1 A) r.2:=by
   intro w x
   rw [Option.bind_assoc]
   congr 1;funext x
   cases x.1 with
   | ret d =>
    simp only [Res.elim]
    rw [ih,bind_map']
    congr 1;funext r
    simp [lastA_cons,foldEnv]
   | pan p=>simp [Res.elim,foldEnv,lastA]
  have keyW:∀ (w:Bool) (x:Option (D×St)),(x.bind fun x=>traceR mL X.P X.h X.call ops os k (putD o.dst x.1 e) x.2 (⟨w,x.1,.any,A,x.2⟩::acc) K) =
    (x.bind fun x=>(traceD X ops os k (putD o.dst x.1 e) x.2).map fun r=>((⟨w,x.1,.any,A,x.2⟩::r.1:List TStep),r.2)).bind
     fun r=>K (r.1.reverse++acc) (foldEnv ((o::os).zip r.1) e) (lastA r.1 A) r.2:=by
   intro w x
   rw [Option.bind_assoc]
   congr 1;funext x
   rw [ih,bind_map']
   congr 1;funext r
   simp [lastA_cons,foldEnv]
  simp only [traceR,traceD,drK_bare X,bn_eq,putK_eq,valK_eq,callK_eq,worldK_eq]
  cases hg:o.guard with
  | none =>
   rw [wanted_none hg,Option.bind_some]
   simp only []
   cases hk:drK (bareX X.P X.h) o.op with
   | val =>
    simp only [cond_true]
    rcases totK_val X.P e o.op (fun d=>traceR mL X.P X.h X.call ops os k (putD o.dst d e) A (⟨true,d,.any,A,A⟩::acc) K)
     ((valD X.P e o.op).bind fun d=>traceR mL X.P X.h X.call ops os k (putD o.dst d e) A (⟨true,d,.any,A,A⟩::acc) K) with h1|⟨d,h1,h2⟩
    ·rw [h1];exact key true _ k .any
    ·rw [h1,h2];exact key true (some d) k .any
   | load =>
    simp only [cond_true,loadK_eq hk]
    exact key true _ k _
   | wait =>
    simp only [cond_true,waitR_eq]
    exact key true _ (k+1) _
   | eff =>
    cases opK X.P o.op
    case call =>
     simp only [cond_true]
     exact keyC true _
    all_goals
     simp only [cond_true]
     exact keyW true _
   | bad=>rfl
  | some g =>
   simp only [guardK_eq hg,Option.bind_assoc]
   congr 1;funext w
   simp only [ifb,adR]
   cases hk:drK (bareX X.P X.h) o.op with
   | val=>exact key w _ k .any
   | load=>simp only [loadK_eq hk];exact key w _ k _
   | wait=>simp only [waitR_eq];exact key w _ (k+1) _
   | eff =>
    cases opK X.P o.op
    case call=>exact keyC w _
    all_goals exact keyW w _
   | bad=>rfl
end Go.Vm
