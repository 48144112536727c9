/- The abstract interpreter over pure data: values without addresses, a store of variables, and the run of the model's Code over them. -/
import Derived.Calls
set_option linter.all false
namespace Go.Vm

inductive Own where
 | sh|full|own (c:Nat) (start:Nat)
 deriving DecidableEq,Inhabited

inductive D where
 | any
 | bool (b:Bool)
 | int (k:IntKind) (n:Int)
 | str (s:List UInt8)
 | val (v:Value)
 | agg (cs:List D)
 | tup (ds:List D)
 | sl (o:Own) (es:Nat) (ds:List D)
 | vsl (k off es len:Nat)
 | ref (k off:Nat)
 | peek (cs:List D)
 | fn (f:Fn) (first cap:List D)
 | iface (t:TypeId) (d:D)
 /-- false: yield of the loop whose record is slot k;true: the mark among the deferred calls,no value -/
 | yld (m:Bool) (k:Nat)
 /-- a map whose entries stand in slot k -/
 | mp (k:Nat)
 deriving Inhabited

inductive RSt where
 | ready|busy|ret|exit (id:Nat)
 deriving DecidableEq,Inhabited

inductive KC where
 | int (k:IntKind) (n:Int)|str (s:List UInt8)|bool (b:Bool)
 deriving DecidableEq,Inhabited
inductive AK where
 | int (k:IntKind)|str|bool
 deriving DecidableEq,Inhabited
inductive Key where
 | c (x:KC)|a (xs:List KC)
 deriving DecidableEq,Inhabited
inductive KT where
 | c (x:AK)|a (xs:List AK)
 deriving DecidableEq,Inhabited

inductive Slot where
 | cells (cs:List D)
 | tok (n:Nat)
 | dead
 | loop (f:FuncId) (t:List D) (rf:Code) (st:RSt)
 | dfb
 | map (kt:KT) (ks:List Key) (vs:List D) (bs:List Nat) (clock:Nat)

abbrev St:=List Slot

inductive Res where
 | ret (d:D)|pan (d:D)

inductive Ex where
 | normal|exit (id:Nat)|ret|pan (d:D)

structure Env where
 t:List D
 df:List (D×List D)

structure Out where
 ex:Ex
 env:Env
 st:St

abbrev ORes:=Option (Res×St)

def undefD:D:=.tup []

def ofCell:Value→D
 | .bool b=>.bool b
 | .int k n=>.int k n
 | .string s=>.str s.data.toList
 | .slice none 0 0=>.sl .full 0 []
 | .pointer none=>.val (.pointer none)
 | .nilFunc=>.val .nilFunc
 | .nilIface=>.val .nilIface
 | .map none=>.val (.map none)
 | .func f first cap=>if first.isEmpty && cap.isEmpty then .fn f [] [] else .any
 | _=>.any
def ofConst:Value→D
 | .agg cs=>.agg (cs.toList.map ofCell)
 | .tuple vs=>if vs.isEmpty then .tup [] else .any
 | v=>ofCell v

def evalO (e:List D):Operand→D
 | .tmp t=>e.getD t undefD
 | .const v=>ofConst v
 | .global _=>.any
 | .func f=>.fn (.func f) [] []

def D.bool?:D→Option Bool
 | .bool b=>some b
 | _=>none
def D.int?:D→Option (IntKind×Int)
 | .int k n=>some (k,n)
 | _=>none
def D.str?:D→Option (List UInt8)
 | .str s=>some s
 | _=>none
def D.agg?:D→Option (List D)
 | .agg cs=>some cs
 | _=>none
def D.cell?:D→Option D
 | .any|.agg _|.tup _=>none
 | d=>some d
def allCells (cs:List D):Bool:=cs.all fun d=>d.cell?.isSome
def D.cellsT (agg:Bool) (d:D):Option (List D):=cond agg (d.agg?.bind fun cs=>if allCells cs then some cs else none) (d.cell?.map fun x=>[x])
def ofCells (agg:Bool) (cs:List D) (off n:Nat):Option D :=
 cond agg (if off+n≤cs.length then some (.agg ((cs.drop off).take n)) else none) cs[off]?
def guardB (want:Bool):D→Option Bool
 | .bool b=>some (b == want)
 | .tup []=>some false
 | _=>none

def tySize (P:Program) (t:TypeId):Option Nat:=(P.info? t).map (·.size)
def tyBytes (P:Program) (t:TypeId):Option Nat:=(P.info? t).map (·.bytes)
def tyAgg (P:Program) (t:TypeId):Option Bool:=(P.underlying t).map fun|.struct _|.array _ _=>true|_=>false
def tyZero (P:Program) (t:TypeId):Option Value:=(P.info? t).bind (·.zero)
def tyElem (P:Program) (t:TypeId):Option TypeId:=(P.underlying t).bind fun|.slice e=>some e|_=>none
def tyField (P:Program) (t:TypeId) (f:Nat):Option Field:=(P.underlying t).bind fun|.struct fs=>fs[f]?|_=>none
def elemOf (P:Program) (t:TypeId):Option (TypeId×Nat×Bool) :=
 (tyElem P t).bind fun e=>(tySize P e).bind fun n=>(tyAgg P e).bind fun g=>if n=0 then none else some (e,n,g)

def Own.isOwn:Own→Bool
 | .own _ _=>true
 | _=>false
def esOk (o:Own) (es n:Nat) (ds:List D):Bool:=es == n || (ds.isEmpty && !o.isOwn)

def splice (cs:List D) (off:Nat) (vs:List D):List D:=cs.take off++vs++cs.drop (off+vs.length)
def layCells (g:Bool) (n off:Nat) (cs:List D) (d:D):Option (List D) :=
 (d.cellsT g).bind fun vs=>if vs.length=n∧off+n≤cs.length then some (splice cs off vs) else none
def fillD (P:Program) (fs:Array Field) (cs:List D):List (Nat×D)→Option (List D)
 | []=>some cs
 | (i,d)::r=>(fs[i]?).bind fun f=>(tySize P f.type).bind fun n=>(tyAgg P f.type).bind fun g=>(layCells g n f.offset cs d).bind fun cs'=>fillD P fs cs' r
def buildD (P:Program) (t:TypeId) (parts:List (Nat×D)):Option D :=
 (P.underlying t).bind fun
  | .struct fs=>(tyZero P t).bind fun z=>if fs.all (fun f=>(P.info? f.type).isSome) then (fillD P fs (z.cells.toList.map ofCell) parts).map .agg else none
  | _=>none

def intBinD (op:BinOp) (k:IntKind) (a b:Int):Option D :=
 match op with
 | .add=>some (.int k (k.wrap (a+b)))
 | .sub=>some (.int k (k.wrap (a - b)))
 | .mul=>some (.int k (k.wrap (a * b)))
 | .quo=>if b=0 then none else some (.int k (k.wrap (a.tdiv b)))
 | .rem=>if b=0 then none else some (.int k (a.tmod b))
 | .and=>some (.int k (k.wrap (BitVec.ofInt k.bits a &&& BitVec.ofInt k.bits b).toNat))
 | .or=>some (.int k (k.wrap (BitVec.ofInt k.bits a ||| BitVec.ofInt k.bits b).toNat))
 | .xor=>some (.int k (k.wrap (BitVec.ofInt k.bits a ^^^ BitVec.ofInt k.bits b).toNat))
 | .andNot=>some (.int k (k.wrap (BitVec.ofInt k.bits a &&& ~~~BitVec.ofInt k.bits b).toNat))
 | .eql=>some (.bool (a == b))
 | .neq=>some (.bool (a != b))
 | .lss=>some (.bool (a<b))
 | .leq=>some (.bool (a≤b))
 | .gtr=>some (.bool (a > b))
 | .geq=>some (.bool (a ≥ b))
 | _=>none
def shiftD (op:BinOp) (k:IntKind) (a b:Int):Option D :=
 if b<0 then none else match op with
 | .shl=>some (.int k (k.wrap (a * 2 ^ (min b.toNat k.bits))))
 | .shr=>some (.int k (a.fdiv (2 ^ (min b.toNat k.bits))))
 | _=>none
def strBinD (op:BinOp) (a b:List UInt8):Option D :=
 match op with
 | .add=>if a.length+b.length≤9223372036854775807 then some (.str (a++b)) else none
 | .eql=>some (.bool (a == b))
 | .neq=>some (.bool (!(a == b)))
 | .lss=>some (.bool (Op.bytesLess a b))
 | .leq=>some (.bool (Op.bytesLess a b || a == b))
 | .gtr=>some (.bool (!(Op.bytesLess a b || a == b)))
 | .geq=>some (.bool (!(Op.bytesLess a b)))
 | _=>none
def negIf (neq:Bool) (b:Bool):D:=.bool (if neq then !b else b)
def eqBool (neq:Bool) (x y:D):Option D:=x.bool?.bind fun a=>y.bool?.bind fun b=>some (negIf neq (a == b))
def eqIface (neq lit:Bool) (x y:D):Option D :=
 match x,y with
 | .val .nilIface,.val .nilIface=>if lit then some (negIf neq true) else none
 | .val .nilIface,.iface _ _|.iface _ _,.val .nilIface=>some (negIf neq false)
 | _,_=>none
def eqPtr (neq:Bool) (x y:D):Option D :=
 match x,y with
 | .val (.pointer none),.val (.pointer none)=>some (negIf neq true)
 | .val (.pointer none),.ref _ _|.val (.pointer none),.peek _|.ref _ _,.val (.pointer none)|.peek _,.val (.pointer none)=>some (negIf neq false)
 | _,_=>none
def eqSlice (neq lit:Bool) (x y:D):Option D :=
 match x,y with
 | .sl _ _ (_::_),.sl .full 0 []=>if lit then some (negIf neq false) else none
 | _,_=>none
def atomK (P:Program) (t:TypeId):Option AK :=
 match P.underlying t with
 | some (.int k)=>some (.int k)
 | some .string=>some .str
 | some .bool=>some .bool
 | _=>none
def flatKs (P:Program):Nat→List Field→Option (List AK)
 | _,[]=>some []
 | i, f :: r => if (f.name != "_" && f.offset == i && tySize P f.type == some 1) = true then (atomK P f.type).bind fun a => (flatKs P (i + 1) r).map (a :: ·) else none
def akCode:AK→Nat
 | .int _=>0
 | .str=>1
 | .bool=>2
def aksCode:List AK→Nat
 | []=>1
 | a::r=>akCode a+4 * aksCode r
def cellEq (c:Nat) (x y:D):Option Bool :=
 match c,x,y with
 | 0,.int k a,.int k' b=>if k=k' then some (a == b) else none
 | 1,.str a,.str b=>some (a == b)
 | 2,.bool a,.bool b=>some (a == b)
 | _,_,_=>none
def eqCells:Nat→List D→List D→Option Bool
 | c,[],[]=>if c=1 then some true else none
 | c,x::r,y::s=>(cellEq (c % 4) x y).bind fun b=>(eqCells (c / 4) r s).map fun t=>b && t
 | _,_,_=>none
def eqAgg (n:Nat) (neq:Bool) (x y:D):Option D:=x.agg?.bind fun xs=>y.agg?.bind fun ys=>(eqCells n xs ys).map (negIf neq)
def eqKind (P:Program) (t:TypeId):Nat :=
 match P.underlying t with
 | some .bool=>0
 | some (.interface _)=>1
 | some (.pointer _)=>2
 | some (.slice _)=>4
 | some (.struct fs)=>match flatKs P 0 fs.toList with
  | some as=>if !P.stoodInHeld t && !P.eqGuardType P.depth t then 100+aksCode as else 3
  | none=>3
 | _=>3
def eqOf (kind:Nat) (neq lit:Bool) (x y:D):Option D :=
 match kind with
 | 0=>eqBool neq x y
 | 1=>eqIface neq lit x y
 | 2=>eqPtr neq x y
 | 4=>eqSlice neq lit x y
 | k=>if 100≤k then eqAgg (k - 100) neq x y else none
def KC.ak:KC→AK
 | .int k _=>.int k
 | .str _=>.str
 | .bool _=>.bool
def Key.kt:Key→KT
 | .c x=>.c x.ak
 | .a xs=>.a (xs.map KC.ak)
def keyC:D→Option KC
 | .int k n=>some (.int k n)
 | .str s=>some (.str s)
 | .bool b=>some (.bool b)
 | _=>none
def keyCs:List D→Option (List KC)
 | []=>some []
 | d::r=>(keyC d).bind fun x=>(keyCs r).map (x::·)
def keyD:D→Option Key
 | .agg cs=>(keyCs cs).map .a
 | d=>(keyC d).map .c
def keyKind (P:Program) (t:TypeId):Option KT :=
 match P.underlying t with
 | some (.struct fs)=>if P.stoodInHeld t then none else (flatKs P 0 fs.toList).map .a
 | _=>(atomK P t).map .c
def tyMap (P:Program) (t:TypeId):Option (TypeId×TypeId):=(P.underlying t).bind fun|.map k e=>some (k,e)|_=>none
def findK (k:Key):List Key→Option Nat
 | []=>none
 | x::r=>if x=k then some 0 else (findK k r).map (·+1)
def findB (b:Nat):List Nat→Option Nat
 | []=>none
 | x::r=>if x=b then some 0 else (findB b r).map (·+1)
def keyOf? (kt:KT) (d:D):Option Key:=(keyD d).bind fun k=>if k.kt=kt then some k else none
def mapVal (kt:KT) (k:Key):Slot→Option (Option D)
 | .map kt' ks vs _ _=>if kt'=kt then match findK k ks with
  | none=>some none
  | some i=>(vs[i]?).map some
  else none
 | _=>none
def lookV (z:D) (ok:Bool) (v:Option D):D:=if ok then .tup [v.getD z,.bool v.isSome] else v.getD z
def mapGetO (kt:KT) (z:D) (ok:Bool) (m key:D) (A:St):Option D :=
 (keyOf? kt key).bind fun k=>match m with
  | .mp j=>(A[j]?).bind fun s=>(mapVal kt k s).map (lookV z ok)
  | .val (.map none)=>some (lookV z ok none)
  | _=>none
def mapLenO (m:D) (A:St):Option D :=
 match m with
 | .mp j=>(A[j]?).bind fun
  | .map _ ks _ _ _=>some (.int .i64 ks.length)
  | _=>none
 | .val (.map none)=>some (.int .i64 0)
 | _=>none
def onMap (m:D) (A:St) (f:KT→List Key→List D→List Nat→Nat→Option (D×Slot)):Option (D×St) :=
 match m with
 | .mp j=>(A[j]?).bind fun
  | .map kt ks vs bs c=>(f kt ks vs bs c).map fun r=>(r.1,A.set j r.2)
  | _=>none
 | _=>none
def mapPutO (kt:KT) (m key v:D) (A:St):Option (D×St) :=
 (keyOf? kt key).bind fun k=>onMap m A fun kt' ks vs bs c=>if kt'=kt then (match findK k ks with
  | some i=>some (undefD,.map kt ks (vs.set i v) bs c)
  | none=>some (undefD,.map kt (ks++[k]) (vs++[v]) (bs++[c]) (c+1))) else none
def mapEntryO (kt:KT) (z:D) (m key:D) (A:St):Option (D×St) :=
 (keyOf? kt key).bind fun k=>onMap m A fun kt' ks vs bs c=>if kt'=kt then (match findK k ks with
  | some i=>(vs[i]?).bind fun v=>(bs[i]?).map fun b=>(.tup [v,.int .i64 b],.map kt ks vs bs c)
  | none=>some (.tup [z,.int .i64 c],.map kt (ks++[k]) (vs++[z]) (bs++[c]) (c+1))) else none
def entryStoreO (m stamp v:D) (A:St):Option (D×St) :=
 stamp.int?.bind fun b=>onMap m A fun kt ks vs bs c=>if 0≤b.2 then (findB b.2.toNat bs).map fun i=>(undefD,.map kt ks (vs.set i v) bs c) else none
def mapDelO (kt:KT) (m key:D) (A:St):Option (D×St) :=
 (keyOf? kt key).bind fun k=>onMap m A fun kt' ks vs bs c=>if kt'=kt then (match findK k ks with
  | some i=>some (undefD,.map kt (ks.eraseIdx i) (vs.eraseIdx i) (bs.eraseIdx i) c)
  | none=>some (undefD,.map kt ks vs bs c)) else none
def makeMapO (kt:KT) (A:St):D×St:=(.mp A.length,A++[.map kt [] [] [] 0])
def isLit:Operand→Bool
 | .const _=>true
 | _=>false
def binO (op:BinOp) (kind:Nat) (lit:Bool) (x y:D):Option D :=
 match op,x,y with
 | .shl,.int k a,.int _ b=>shiftD .shl k a b
 | .shr,.int k a,.int _ b=>shiftD .shr k a b
 | op,.int k a,.int k' b=>if k=k' then intBinD op k a b else none
 | op,.str a,.str b=>strBinD op a b
 | .eql,x,y=>eqOf kind false lit x y
 | .neq,x,y=>eqOf kind true lit x y
 | _,_,_=>none
def binD (P:Program) (op:BinOp) (t:TypeId) (lit:Bool) (x y:D):Option D:=binO op (eqKind P t) lit x y
def unD (op:UnOp):D→Option D
 | .int k n=>match op with
  | .neg=>some (.int k (k.wrap (0 - n)))
  | .xor=>some (.int k (k.wrap (BitVec.ofInt k.bits (if k.signed then -1 else k.max) ^^^ BitVec.ofInt k.bits n).toNat))
  | _=>none
 | .bool b=>match op with
  | .not=>some (.bool !b)
  | _=>none
 | _=>none
def bytesD:List D→Option (List UInt8)
 | []=>some []
 | .int .u8 n::r=>(bytesD r).map (n.toNat.toUInt8::·)
 | _=>none
def convInt (k:IntKind) (x:D):Option D:=x.int?.map fun p=>.int k (k.wrap p.2)
def convStr (x:D):Option D:=x.str?.map .str
def convBytesStr (x:D):Option D :=
 match x with
 | .sl o es ds=>if esOk o es 1 ds then (bytesD ds).map .str else none
 | _=>none
inductive ConvK where
 | int (k:IntKind)|str|bytesStr|bad
def convK (P:Program) (src dst:TypeId):ConvK :=
 match P.underlying src,P.underlying dst with
 | some (.int _),some (.int k)=>.int k
 | some .string,some .string=>.str
 | some (.slice e),some .string=>match P.underlying e with
  | some (.int .u8)=>.bytesStr
  | _=>.bad
 | _,_=>.bad
def convO (k:ConvK) (x:D):Option D :=
 match k with
 | .int k=>convInt k x
 | .str=>convStr x
 | .bytesStr=>convBytesStr x
 | .bad=>none
def convD (P:Program) (src dst:TypeId) (x:D):Option D:=convO (convK P src dst) x
def optInt:Option D→Option (Option Int)
 | none=>some none
 | some d=>d.int?.map fun p=>some p.2
def sliceStr (s:List UInt8) (lo hi:Option Int):Option D :=
 let h:=hi.getD s.length
 let l:=lo.getD 0
 if 0≤l∧l≤h∧h≤s.length then some (.str ((s.take h.toNat).drop l.toNat)) else none
def sliceOwn (o:Own) (n l h:Nat) (m:Option Nat):Own :=
 match m with
 | some m=>if m=h then .full else .sh
 | none=>if h=n then (match o with|.own c s=>.own c (s+l)|o=>o) else .sh
def sliceSl (o:Own) (es:Nat) (ds:List D) (lo hi mx:Option Int):Option D :=
 let h:=hi.getD ds.length
 let l:=lo.getD 0
 let m:=mx.getD ds.length
 if 0≤l∧l≤h∧h≤m∧m≤ds.length∧(mx.isSome→hi.isSome) then
  some (.sl (sliceOwn o ds.length l.toNat h.toNat (mx.map (·.toNat))) es ((ds.take h.toNat).drop l.toNat)) else none
def sliceStrO (x:D) (lo hi mx:Option D):Option D :=
 (optInt lo).bind fun l=>(optInt hi).bind fun h=>match mx with
  | none=>x.str?.bind fun s=>sliceStr s l h
  | some _=>none
def sliceV (k off es len:Nat) (lo hi mx:Option Int):Option D :=
 let h:=hi.getD len
 let l:=lo.getD 0
 if 0≤l∧l≤h∧h≤len∧mx=none then some (.vsl k (off+l.toNat * es) es (h.toNat - l.toNat)) else none
def sliceSlO (n:Nat) (x:D) (lo hi mx:Option D):Option D :=
 (optInt lo).bind fun l=>(optInt hi).bind fun h=>(optInt mx).bind fun m=>match x with
  | .sl o es ds=>if n≠0∧esOk o es n ds then sliceSl o n ds l h m else none
  | .vsl k off es len=>if n≠0∧es=n then sliceV k off n len l h m else none
  | _=>none
def sliceD (P:Program) (t:TypeId) (x:D) (lo hi mx:Option D):Option D :=
 (P.underlying t).bind fun
  | .string=>sliceStrO x lo hi mx
  | .slice e=>(tySize P e).bind fun n=>sliceSlO n x lo hi mx
  | _=>none
def fieldAddrO (off:Nat) (x:D):Option D :=
 match x with
 | .ref k o=>some (.ref k (o+off))
 | .peek cs=>some (.peek (cs.drop off))
 | _=>none
def fieldAddrD (P:Program) (s:TypeId) (x:D) (f:Nat):Option D :=
 (tyField P s f).bind fun fd=>(tySize P fd.type).bind fun n=>if n=0 then none else fieldAddrO fd.offset x
def fieldO (g:Bool) (off n:Nat) (x:D):Option D:=x.agg?.bind fun cs=>ofCells g cs off n
def fieldD (P:Program) (t:TypeId) (x:D) (f:Nat):Option D :=
 (tyField P t f).bind fun fd=>(tySize P fd.type).bind fun n=>(tyAgg P fd.type).bind fun g=>fieldO g fd.offset n x
def indexAddrO (n:Nat) (g:Bool) (x i:D):Option D :=
 i.int?.bind fun i=>match x with
  | .sl o es ds=>if 0≤i.2∧esOk o es n ds then (ds[i.2.toNat]?).bind fun d=>(d.cellsT g).map .peek else none
  | .vsl k off es len=>if 0≤i.2∧i.2<len∧es=n then some (.ref k (off+i.2.toNat * n)) else none
  | _=>none
def indexAddrD (P:Program) (t:TypeId) (x i:D):Option D:=(elemOf P t).bind fun r=>indexAddrO r.2.1 r.2.2 x i
def indexStrO (x i:D):Option D:=x.str?.bind fun s=>i.int?.bind fun i=>if 0≤i.2 then (s[i.2.toNat]?).map fun b=>.int .u8 b.toNat else none
def indexD (P:Program) (t:TypeId) (x i:D):Option D :=
 (P.underlying t).bind fun
  | .string=>indexStrO x i
  | _=>none
def assertV (z:Option D) (x:D) (asserted:TypeId) (ok:Bool):Option D :=
 match x with
 | .val .nilIface=>if ok then z.map fun z=>.tup [z,.bool false] else none
 | .iface t d=>if t=asserted then some (if ok then .tup [d,.bool true] else d)
  else if ok then z.map fun z=>.tup [z,.bool false] else none
 | _=>none
def assertD (P:Program) (x:D) (asserted:TypeId) (ok:Bool):Option D :=
 (P.underlying asserted).bind fun
  | .interface _=>none
  | _=>assertV ((tyZero P asserted).map ofConst) x asserted ok
def extractD (x:D) (i:Nat):Option D :=
 match x with
 | .tup ds=>ds[i]?
 | _=>none
def isMethod:Fn→Bool
 | .method _=>true
 | _=>false
def nilCheckD:D→Option D
 | .ref k o=>some (.ref k o)
 | .peek cs=>some (.peek cs)
 | .fn f a b=>if isMethod f then none else some (.fn f a b)
 | _=>none
def lenStrO (x:D):Option D:=x.str?.map fun s=>.int .i64 s.length
def lenSlO (x:D):Option D :=
 match x with
 | .sl _ _ ds=>some (.int .i64 ds.length)
 | .vsl _ _ _ n=>some (.int .i64 n)
 | _=>none
def lenD (P:Program) (t:TypeId) (x:D):Option D :=
 (P.underlying t).bind fun
  | .string=>lenStrO x
  | .slice _=>lenSlO x
  | _=>none
def minMaxD (mx:Bool):List D→Option D
 | [.int k a,.int k' b]=>if k=k' then some (.int k (if mx then max a b else min a b)) else none
 | _=>none
def pureBuiltin (P:Program) (b:Builtin) (ts:List TypeId) (xs:List D):Option D :=
 match b with
 | .len=>match ts,xs with
  | t::_,[x]=>lenD P t x
  | _,_=>none
 | .max=>minMaxD true xs
 | .min=>minMaxD false xs
 | _=>none
def pureD (P:Program) (e:List D) (op:Op):Option D :=
 match op with
 | .move x|.assign x=>some (evalO e x)
 | .pick c a b=>(evalO e c).bool?.map fun t=>cond t (evalO e a) (evalO e b)
 | .build t ps=>buildD P t (ps.toList.map fun p=>(p.1,evalO e p.2))
 | .nilCheck x=>nilCheckD (evalO e x)
 | .binOp op t x y _=>binD P op t (isLit x || isLit y) (evalO e x) (evalO e y)
 | .unOp op _ x=>unD op (evalO e x)
 | .convert s d x=>convD P s d (evalO e x)
 | .makeInterface t x=>(P.underlying t).bind fun|.interface _=>none|_=>some (.iface t (evalO e x))
 | .makeFunc f first cap=>some (.fn f (first.toList.map (evalO e)) (cap.toList.map (evalO e)))
 | .slice t x lo hi mx=>sliceD P t (evalO e x) (lo.map (evalO e)) (hi.map (evalO e)) (mx.map (evalO e))
 | .fieldAddr t x f=>fieldAddrD P t (evalO e x) f
 | .field t x f=>fieldD P t (evalO e x) f
 | .indexAddr t x i=>indexAddrD P t (evalO e x) (evalO e i)
 | .index t x i=>indexD P t (evalO e x) (evalO e i)
 | .typeAssert x _ a ok=>assertD P (evalO e x) a ok
 | .extract x i=>extractD (evalO e x) i
 | .call { callee:=.builtin b,args,argTypes }=>pureBuiltin P b argTypes.toList (args.toList.map (evalO e))
 | _=>none

def loadO (g:Bool) (n:Nat) (a:D) (A:St):Option D :=
 match a with
 | .peek cs=>ofCells g cs 0 n
 | .ref k off=>(A[k]?).bind fun
  | .cells cs=>ofCells g cs off n
  | _=>none
 | _=>none
def loadD (P:Program) (t:TypeId) (a:D) (A:St):Option D :=
 (tySize P t).bind fun n=>(tyAgg P t).bind fun g=>loadO g n a A
def storeO (g:Bool) (n:Nat) (a v:D) (A:St):Option St :=
 (v.cellsT g).bind fun vs=>match a with
  | .ref k off=>(A[k]?).bind fun
   | .cells cs=>if vs.length=n∧off+n≤cs.length then some (A.set k (.cells (splice cs off vs))) else none
   | _=>none
  | _=>none
def storeD (P:Program) (t:TypeId) (a v:D) (A:St):Option St :=
 (tySize P t).bind fun n=>(tyAgg P t).bind fun g=>storeO g n a v A
def allocD (cs:List D) (A:St):D×St:=(.ref A.length 0,A++[.cells cs])
def boxO (g:Bool) (x:D) (A:St):Option (D×St):=(x.cellsT g).map fun cs=>allocD cs A
def sliceParts (n:Nat) (g:Bool):Nat→List (Nat×D)→Option (List D)
 | _,[]=>some []
 | i,(j,d)::r=>if i=j then (d.cellsT g).bind fun vs=>if vs.length=n then (sliceParts n g (i+1) r).map (d::·) else none else none
def buildSliceD (P:Program) (t:TypeId) (len:Nat) (parts:List (Nat×D)):Option D :=
 (elemOf P t).bind fun r=>if parts.length=len∧len * r.2.1≤16777216∧(tyZero P r.1).isSome then (sliceParts r.2.1 r.2.2 0 parts).map (.sl .full r.2.1) else none
def roomOk (n b:Nat):Bool:=n * b≤140737488355328
def makeO (n b zs:Nat) (zc:List D) (l c:D) (A:St):Option (D×St) :=
 l.int?.bind fun l=>c.int?.bind fun c =>
  if 0≤l.2∧l.2≤c.2∧c.2≤9223372036854775807∧roomOk c.2.toNat b=true∧zs=n∧allCells zc then
   (if l.2=0 then some (.sl (.own A.length 0) n [],A++[.tok 0])
    else if l.2=c.2 then some (.vsl A.length 0 n l.2.toNat,A++[.cells ((List.replicate l.2.toNat zc).flatten)])
    else none)
  else none
def makeSliceD (P:Program) (t:TypeId) (l c:D) (A:St):Option (D×St) :=
 (elemOf P t).bind fun r=>(tyBytes P r.1).bind fun b=>(tyZero P r.1).bind fun z=>makeO r.2.1 b z.cells.size (z.cells.toList.map ofCell) l c A
def strBytes (s:List UInt8):List D:=s.map fun b=>.int .u8 b.toNat
def appendNew (n:Nat) (x:D):Option (List D) :=
 match x with
 | .sl o es ds=>if esOk o es n ds then some ds else none
 | .str s=>if n=1 then some (strBytes s) else none
 | _=>none
def srcOk (P:Program) (u:TypeId):Bool :=
 match P.underlying u with
 | some (.slice _)|some .string=>true
 | _=>false
def appendS (n b:Nat) (x y:D) (A:St):Option (D×St) :=
 (appendNew n y).bind fun new=>match x with
  | .sl o es ds =>
   if esOk o es n ds=true∧roomOk (ds.length+new.length) b=true∧ds.length+new.length≤9223372036854775807 then
    match o with
    | .full=>if new.isEmpty then some (.sl .full n ds,A) else some (.sl (.own A.length 0) n (ds++new),A++[.tok (ds.length+new.length)])
    | .own c s=>(A[c]?).bind fun
     | .tok m=>if m=s+ds.length then some (.sl (.own c s) n (ds++new),A.set c (.tok (s+ds.length+new.length))) else none
     | _=>none
    | .sh=>if new.isEmpty then some (.sl .sh n ds,A) else none
   else none
  | _=>none
def cellsAny:D→Option (List D)
 | .agg cs=>D.cellsT true (.agg cs)
 | d=>D.cellsT false d
def newCells (n:Nat):List D→Option (List D)
 | []=>some []
 | d::r=>(cellsAny d).bind fun cs=>if cs.length=n then (newCells n r).map (cs++·) else none
def appendVO (n b k off es len:Nat) (y:D) (A:St):Option (D×St) :=
 (appendNew n y).bind fun new =>
  if es=n∧off=0∧roomOk (len+new.length) b=true∧len+new.length≤9223372036854775807 then
   (A[k]?).bind fun
    | .cells cs=>if cs.length=len * n then cond new.isEmpty (some (.vsl k off es len,A))
      ((newCells n new).map fun nc=>(.vsl A.length 0 n (len+new.length),A.set k .dead++[.cells (cs++nc)])) else none
    | _=>none
  else none
def appendO (n b:Nat) (x y:D) (A:St):Option (D×St) :=
 match x with
 | .vsl k off es len=>appendVO n b k off es len y A
 | x=>appendS n b x y A
def appendD (P:Program) (ts:List TypeId) (x y:D) (A:St):Option (D×St) :=
 match ts with
 | [t,u]=>(elemOf P t).bind fun r=>(tyBytes P r.1).bind fun b=>(tyZero P r.1).bind fun z=>if z.cells.size=r.2.1∧srcOk P u=true then appendO r.2.1 b x y A else none
 | _=>none
def bytesConvO (x:D):Option D:=x.str?.map fun s=>.sl .sh 1 (strBytes s)
def bytesConvD (P:Program) (src dst:TypeId) (x:D):Option D :=
 (P.underlying src).bind fun s=>(P.underlying dst).bind fun d=>match s,d with
  | .string,.slice e=>(P.underlying e).bind fun
   | .int .u8=>bytesConvO x
   | _=>none
  | _,_=>none
def isBytesConv (P:Program) (src dst:TypeId):Bool :=
 match P.underlying src,P.underlying dst with
 | some .string,some (.slice _)=>true
 | _,_=>false
def mapTy (P:Program) (ts:List TypeId):Option (TypeId×TypeId) :=
 match ts with
 | t::_=>tyMap P t
 | []=>none
def mapD (P:Program) (e:List D) (op:Op) (A:St):Option (D×St) :=
 match op with
 | .makeMap t h=>(tyMap P t).bind fun r=>(keyKind P r.1).bind fun kt=>(optInt (h.map (evalO e))).map fun _=>makeMapO kt A
 | .lookup t m k ok=>(tyMap P t).bind fun r=>(keyKind P r.1).bind fun kt=>(tyZero P r.2).bind fun z=>(mapGetO kt (ofConst z) ok (evalO e m) (evalO e k) A).map (·,A)
 | .mapUpdate t m k v|.insert t m k v=>(tyMap P t).bind fun r=>(keyKind P r.1).bind fun kt=>mapPutO kt (evalO e m) (evalO e k) (evalO e v) A
 | .mapEntry t m k=>(tyMap P t).bind fun r=>(keyKind P r.1).bind fun kt=>(tyZero P r.2).bind fun z=>mapEntryO kt (ofConst z) (evalO e m) (evalO e k) A
 | .entryStore _ m s v=>entryStoreO (evalO e m) (evalO e s) (evalO e v) A
 | _=>none
def worldD (P:Program) (e:List D) (op:Op) (A:St):Option (D×St) :=
 match op with
 | .load t a=>(loadD P t (evalO e a) A).map (·,A)
 | .store t a v=>(storeD P t (evalO e a) (evalO e v) A).map (undefD,·)
 | .alloc t=>(tyZero P t).bind fun z=>if allCells (z.cells.toList.map ofCell) then some (allocD (z.cells.toList.map ofCell) A) else none
 | .box t x=>(tyAgg P t).bind fun g=>boxO g (evalO e x) A
 | .buildSlice t n ps=>(buildSliceD P t n (ps.toList.map fun p=>(p.1,evalO e p.2))).map (·,A)
 | .makeSlice t l c=>makeSliceD P t (evalO e l) (evalO e c) A
 | .convert s d x=>(bytesConvD P s d (evalO e x)).map (·,A)
 | .call { callee:=.builtin .append,args,argTypes }=>match args.toList with
  | [x,y]=>appendD P argTypes.toList (evalO e x) (evalO e y) A
  | _=>none
 | .call { callee:=.builtin .delete,args,argTypes }=>match args.toList,argTypes.toList with
  | [x,y],t::_=>(tyMap P t).bind fun r=>(keyKind P r.1).bind fun kt=>mapDelO kt (evalO e x) (evalO e y) A
  | _,_=>none
 | .call { callee:=.builtin .len,args,argTypes }=>match args.toList with
  | [x]=>(mapTy P argTypes.toList).bind fun _=>(mapLenO (evalO e x) A).map (·,A)
  | _=>none
 | op=>mapD P e op A

def litO (n:Nat) (g:Bool) (len:Nat) (parts:List (Nat×D)) (A:St):Option (D×St) :=
 (sliceParts n g 0 parts).bind fun ds=>(newCells n ds).map fun cs=>(.vsl A.length 0 n len,A++[.cells cs])
def litD (P:Program) (t:TypeId) (len:Nat) (parts:List (Nat×D)) (A:St):Option (D×St) :=
 (elemOf P t).bind fun r=>if parts.length=len∧len * r.2.1≤16777216∧(tyZero P r.1).isSome then litO r.2.1 r.2.2 len parts A else none
def hintLit:List (Nat×Nat)→Bool
 | (_,es)::_=>Nat.ble 2000000 es
 | []=>false
def worldH (P:Program) (h:List (Nat×Nat)) (e:List D) (op:Op) (A:St):Option (D×St) :=
 match hintLit h,op with
 | true,.buildSlice t n ps=>litD P t n (ps.toList.map fun p=>(p.1,evalO e p.2)) A
 | _,op=>worldD P e op A
def tokCell (es:Nat) (d:D) (A:St):D×St :=
 match d with
 | .sl .full es' ds=>cond (ds.isEmpty && Nat.ble 1000000 es) (.vsl A.length 0 (es - 1000000) 0,A++[.cells []])
   (.sl (.own A.length 0) (if ds.isEmpty then es else es') ds,A++[.tok ds.length])
 | d=>(d,A)
def tokCells:List (Nat×Nat)→List D→St→List D×St
 | [],cs,A=>(cs,A)
 | (off,es)::r,cs,A=>let x:=tokCell es (cs.getD off .any) A;tokCells r (cs.set off x.1) x.2
def tokD (h:List (Nat×Nat)) (d:D) (A:St):D×St :=
 match h with
 | []=>(d,A)
 | (_,es)::_=>match d with
  | .agg cs=>let x:=tokCells h cs A;(.agg x.1,x.2)
  | .ref k 0=>match A[k]? with
   | some (.cells cs)=>let x:=tokCells h cs A;(.ref k 0,x.2.set k (.cells x.1))
   | _=>(d,A)
  | d=>tokCell es d A

def Own.shut (n:Nat):Own→Own
 | .own c s=>if c<n then .own c s else .sh
 | .sh=>.sh
 | .full=>.full
mutual
def D.shut (n:Nat):D→D
 | .agg cs=>.agg (D.shutL n cs)
 | .tup ds=>.tup (D.shutL n ds)
 | .sl o es ds=>.sl (o.shut n) es (D.shutL n ds)
 | .vsl k off es len=>if k<n then .vsl k off es len else .any
 | .ref k off=>if k<n then .ref k off else .any
 | .peek cs=>.peek (D.shutL n cs)
 | .fn f a b=>.fn f (D.shutL n a) (D.shutL n b)
 | .iface t d=>.iface t (d.shut n)
 | .yld m k=>if k<n then .yld m k else .any
 | .mp k=>if k<n then .mp k else .any
 | d=>d
def D.shutL (n:Nat):List D→List D
 | []=>[]
 | d::r=>d.shut n::D.shutL n r
end
def Slot.shut (n:Nat):Slot→Slot
 | .cells cs=>.cells (D.shutL n cs)
 | .loop f t rf st=>.loop f (D.shutL n t) rf st
 | .map kt ks vs bs c=>.map kt ks (D.shutL n vs) bs c
 | s=>s
def Kept (A A':St):Prop:=A.length≤A'.length∧∀ k,k<A.length→A'[k]?=A[k]?∨∃ s,A'[k]?=some s∧s.shut A.length=s

mutual
def D.canon:D→D
 | .agg cs=>.agg (D.canonL cs)
 | .tup ds=>.tup (D.canonL ds)
 | .sl _ es ds=>.sl .sh (match ds with|[]=>0|_::_=>es) (D.canonL ds)
 | .peek cs=>.peek (D.canonL cs)
 | .fn f a b=>.fn f (D.canonL a) (D.canonL b)
 | .iface t d=>.iface t d.canon
 | d=>d
def D.canonL:List D→List D
 | []=>[]
 | d::r=>d.canon::D.canonL r
end

mutual
def D.mapV (n:Nat) (G:Nat→Nat→Nat→Nat→D):D→D
 | .agg cs=>.agg (D.mapVL n G cs)
 | .tup ds=>.tup (D.mapVL n G ds)
 | .sl o es ds=>.sl (o.shut n) es (D.mapVL n G ds)
 | .vsl k off es len=>if k<n then .vsl k off es len else G k off es len
 | .ref k off=>if k<n then .ref k off else .any
 | .peek cs=>.peek (D.mapVL n G cs)
 | .fn f a b=>.fn f (D.mapVL n G a) (D.mapVL n G b)
 | .iface t d=>.iface t (d.mapV n G)
 | .yld m k=>if k<n then .yld m k else .any
 | .mp k=>if k<n then .mp k else .any
 | d=>d
def D.mapVL (n:Nat) (G:Nat→Nat→Nat→Nat→D):List D→List D
 | []=>[]
 | d::r=>d.mapV n G::D.mapVL n G r
end
def rowV (n:Nat):Nat→List D→List D
 | 0,_=>[]
 | c+1,cs=>(cond (n == 1) (cs.getD 0 .any) (.agg (cs.take n)))::rowV n c (cs.drop n)
def frzV (n:Nat) (A:St):Nat→Nat→Nat→Nat→Nat→D
 | 0,_,_,_,_=>.any
 | f+1,k,off,es,len=>match A[k]? with
  | some (.cells cs)=>.sl .sh es (D.mapVL n (frzV n A f) (rowV es len (cs.drop off)))
  | _=>.any
def D.frz (n:Nat) (A:St) (d:D):D:=d.mapV n (frzV n A 5)
inductive RetK where
 | trunc|keep|own|can|frz
 deriving DecidableEq,Inhabited

structure Hints where
 tok:Tmp→List (Nat×Nat)
 live:Nat→Option (List Nat)
 loopKeep:Nat→Bool
 ret:RetK
 valApp:Bool
 /-- variables that a drawn region makes are made at its head -/
 waitAl:Bool
 /-- whose the room behind the arguments is is forgotten -/
 canA:Bool
 /-- which temporaries live behind a branch -/
 liveJ:Nat→Option (List Nat)

instance:Inhabited Hints:=⟨⟨fun _=>[],fun _=>none,fun _=>false,.trunc,false,false,false,fun _=>none⟩⟩

def Res.shut (n:Nat):Res→Res
 | .ret d=>.ret (d.shut n)
 | .pan d=>.pan (d.shut n)
def Res.canon:Res→Res
 | .ret d=>.ret d.canon
 | .pan d=>.pan d.canon
def Res.frz (n:Nat) (A:St):Res→Res
 | .ret d=>.ret (d.frz n A)
 | .pan d=>.pan (d.frz n A)

open Classical in
noncomputable def guardP {α:Type} (p:Prop) (x:Option α):Option α:=if p then x else none
theorem guardP_eq {α:Type} {p:Prop} {x:Option α} {r:α}:guardP p x=some r↔p∧x=some r:=by
 unfold guardP
 split<;>simp_all
theorem guardP_true {α:Type} {p:Prop} (h:p) (x:Option α):guardP p x=x:=if_pos h
noncomputable def leaveD (k:RetK) (A:St) (r:Res) (A':St):ORes :=
 match k with
 | .keep=>some (r,A')
 | .trunc=>guardP (Kept A A') (some (r.shut A.length,A'.take A.length))
 | .can=>guardP (Kept A A') (some ((r.shut A.length).canon,A'.take A.length))
 | .frz=>guardP (Kept A A') (some ((r.frz A.length A').canon,A'.take A.length))
 | .own=>guardP (Kept A A') (match r with
   | .ret (.sl (.own c s) es ds) =>
    if c<A.length then some (r.shut A.length,A'.take A.length)
    else (match A'[c]? with
     | some (.tok m)=>some (.ret (.sl (.own A.length s) es (D.shutL A.length ds)),A'.take A.length++[.tok m])
     | _=>none)
   | r=>some (r.shut A.length,A'.take A.length))

def putD (dst:Option Tmp) (d:D) (e:List D):List D :=
 match dst with
 | some t=>e.set t d
 | none=>e
inductive OpK where
 | pure|world|call|defer|bad
def opK (P:Program):Op→OpK
 | .move _|.assign _|.pick ..|.build ..|.nilCheck _|.binOp ..|.unOp ..|.makeInterface ..|.makeFunc ..|.slice ..|.fieldAddr ..|.field ..|.indexAddr ..|.index ..|.typeAssert ..|.extract ..=>.pure
 | .convert s d _=>if isBytesConv P s d then .world else .pure
 | .load ..|.store ..|.alloc _|.box ..|.buildSlice ..|.makeSlice ..|.makeMap ..|.lookup ..|.mapUpdate ..|.insert ..|.mapEntry ..|.entryStore ..=>.world
 | .call { callee:=.builtin .append,.. }|.call { callee:=.builtin .delete,.. }=>.world
 | .panic _|.call { callee:=.builtin .panic,.. }|.call { callee:=.value _,.. }=>.call
 | .call { callee:=.builtin .len,argTypes,.. }=>if (mapTy P argTypes.toList).isSome then .world else .pure
 | .call { callee:=.builtin .max,.. }|.call { callee:=.builtin .min,.. }=>.pure
 | .defer { callee:=.value _,.. }=>.defer
 | _=>.bad
def rOff:Nat:=1000000
def applyD (call:FuncId→List D→St→ORes) (f:D) (args:List D) (A:St):ORes :=
 match f with
 | .fn (.func g) first cap=>call g (first++args++cap) A
 | .yld false k=>match A[k]? with
  | some (.loop _ _ _ .ready)=>call rOff [.tup [.yld true k],.tup args] A
  | _=>none
 | _=>none
def panicD (d:D):Option Res :=
 match d with
 | .iface t d=>some (.pan (.iface t d))
 | _=>none
def callD (call:FuncId→List D→St→ORes) (e:List D) (op:Op) (A:St):ORes :=
 match op with
 | .call { callee:=.value f,args,.. }=>applyD call (evalO e f) (args.toList.map (evalO e)) A
 | .call { callee:=.builtin .panic,args,.. }=>match args.toList with
  | [x]=>(panicD (evalO e x)).map (·,A)
  | _=>none
 | .panic x=>(panicD (evalO e x)).map (·,A)
 | _=>none
def deferD (e:List D) (op:Op):Option (D×List D) :=
 match op with
 | .defer { callee:=.value f,args,.. }=>match evalO e f with
  | .fn a b c=>some (.fn a b c,args.toList.map (evalO e))
  | _=>none
 | _=>none
def wantedD (ops:Array Oper) (e:List D) (o:Oper):Option Bool :=
 match o.guard with
 | none=>some true
 | some (j,want)=>match (ops[j]?).bind (·.dst) with
  | some t=>guardB want (e.getD t undefD)
  | none=>some false
def Res.elim {α:Type} (r:Res) (f g:D→α):α:=match r with|.ret d=>f d|.pan d=>g d

structure Cx where
 P:Program
 h:Hints
 call:FuncId→List D→St→ORes
 it:(Env→St→Option Out)→Env→St→Option Out
 n:Nat
 f:FuncId

def hintOf (h:Hints) (dst:Option Tmp):List (Nat×Nat) :=
 match dst with
 | some t=>h.tok t
 | none=>[]
def opsD (X:Cx) (ops:Array Oper):List Oper→Env→St→Option Out
 | [],e,A=>some ⟨.normal,e,A⟩
 | o::os,e,A=>(wantedD ops e.t o).bind fun w =>
  match opK X.P o.op with
  | .pure=>(cond w (pureD X.P e.t o.op) (some undefD)).bind fun d =>
    let x:=tokD (hintOf X.h o.dst) d A
    opsD X ops os { e with t:=putD o.dst x.1 e.t } x.2
  | .world=>(cond w (worldH X.P (hintOf X.h o.dst) e.t o.op A) (some (undefD,A))).bind fun r =>
    let x:=tokD (hintOf X.h o.dst) r.1 r.2
    opsD X ops os { e with t:=putD o.dst x.1 e.t } x.2
  | .call=>(cond w (callD X.call e.t o.op A) (some (.ret undefD,A))).bind fun r =>
    r.1.elim (fun d=>opsD X ops os { e with t:=putD o.dst d e.t } r.2) (fun p=>some ⟨.pan p,e,r.2⟩)
  | .defer=>cond w ((deferD e.t o.op).bind fun d=>opsD X ops os { t:=putD o.dst undefD e.t,df:=d::e.df } A) none
  | .bad=>none

inductive DrK where
 | val|load|wait|eff|bad
 deriving DecidableEq
def drK (X:Cx) (o:Op):DrK :=
 match opK X.P o with
 | .pure=>.val
 | .world=>match o with
  | .load ..|.lookup ..=>.load
  | .call { callee:=.builtin .len,.. }=>.load
  | .buildSlice ..|.convert ..=>.val
  | .call { callee:=.builtin .append,.. }=>cond X.h.valApp .val .eff
  | .alloc _=>cond X.h.waitAl .wait .eff
  | _=>.eff
 | .call=>.eff
 | _=>.bad
structure TStep where
 w:Bool
 d:D
 ad:D
 A:St
 A':St
def loadAddr (P:Program) (e:List D):Op→D
 | .load _ a=>evalO e a
 | .lookup t m k ok=>match (tyMap P t).bind fun r=>tyZero P r.2 with
  | some z=>.tup [evalO e m,evalO e k,ofConst z,.bool ok]
  | none=>.any
 | .call { callee:=.builtin .len,args,.. }=>match args.toList with
  | [x]=>.tup [evalO e x]
  | _=>.any
 | _=>.any
def adVal (ds:List D) (A:St):Option D :=
 match ds with
 | [m,key,z,.bool ok]=>(keyD key).bind fun k=>mapGetO k.kt z ok m key A
 | [m]=>mapLenO m A
 | _=>none
def sameAd (ad:D) (A A':St):Prop :=
 match ad with
 | .ref k _=>A[k]?=A'[k]?
 | .tup ds=>adVal ds A=adVal ds A'
 | _=>True
def shV:D→Option D
 | .sl _ es ds=>some (.sl .sh es ds)
 | _=>none
def valD (P:Program) (e:List D) (op:Op):Option D :=
 match opK P op with
 | .pure=>pureD P e op
 | _=>match op with
  | .call _=>(worldD P e op []).bind fun r=>shV r.1
  | _=>(worldD P e op []).map (·.1)
def zeroCs (P:Program):Op→Option (List D)
 | .alloc t=>(tyZero P t).bind fun z=>if allCells (z.cells.toList.map ofCell) then some (z.cells.toList.map ofCell) else none
 | _=>none
noncomputable def waitO (cs:List D) (k:Nat) (A:St):Option D:=guardP (A[k]?=some (.cells cs)) (some (.ref k 0))
noncomputable def waitD (P:Program) (op:Op) (k:Nat) (A:St):Option D:=(zeroCs P op).bind fun cs=>waitO cs k A
noncomputable def traceD (X:Cx) (ops:Array Oper):List Oper→Nat→List D→St→Option (List TStep×Option D)
 | [],_,_,_=>some ([],none)
 | o::os,k,e,A=>(wantedD ops e o).bind fun w =>
  match drK X o.op with
  | .val=>(cond w (valD X.P e o.op) (some undefD)).bind fun d =>
    (traceD X ops os k (putD o.dst d e) A).map fun r=>(⟨w,d,.any,A,A⟩::r.1,r.2)
  | .load=>(cond w ((worldD X.P e o.op A).map (·.1)) (some undefD)).bind fun d =>
    (traceD X ops os k (putD o.dst d e) A).map fun r=>(⟨w,d,cond w (loadAddr X.P e o.op) .any,A,A⟩::r.1,r.2)
  | .wait=>(cond w (waitD X.P o.op k A) (some undefD)).bind fun d =>
    (traceD X ops os (k+1) (putD o.dst d e) A).map fun r=>(⟨w,d,cond w (.ref k 0) .any,A,A⟩::r.1,r.2)
  | .eff=>match opK X.P o.op with
   | .call=>(cond w (callD X.call e o.op A) (some (.ret undefD,A))).bind fun x =>
     x.1.elim (fun d=>(traceD X ops os k (putD o.dst d e) x.2).map fun r=>(⟨w,d,.any,A,x.2⟩::r.1,r.2)) (fun p=>some ([⟨w,.any,.any,A,x.2⟩],some p))
   | _=>(cond w (worldD X.P e o.op A) (some (undefD,A))).bind fun x =>
       (traceD X ops os k (putD o.dst x.1 e) x.2).map fun r=>(⟨w,x.1,.any,A,x.2⟩::r.1,r.2)
  | .bad=>none
def bindsOn (o:Oper):List Nat:=(o.after.toList.filter (Region.binds .any)).map (·.on)
def ancAll (ops:Array Oper):List (List Nat) :=
 ops.toList.foldl (fun acc o=>acc++[((bindsOn o)++(bindsOn o).flatMap (fun j=>acc.getD j [])).eraseDups]) []
def isEff (X:Cx) (o:Oper):Bool:=drK X o.op == .eff
def isLoad (X:Cx) (o:Oper):Bool:=drK X o.op == .load || drK X o.op == .wait
def headD (X:Cx):List Oper→Option St
 | []=>some []
 | o::os=>match drK X o.op with
  | .wait=>(zeroCs X.P o.op).bind fun cs=>(headD X os).map fun T=>.cells cs::T
  | _=>headD X os
def appH (A:St):St→St
 | []=>A
 | s::T=>A++s::T
def loosePairs (X:Cx) (ops:Array Oper) (an:List (List Nat)):List (Nat×Nat) :=
 (ops.toList.zipIdx.filter fun x=>isLoad X x.1).flatMap fun x=>((ops.toList.zipIdx.filter fun y=>isEff X y.1).filter fun y =>
  !((an.getD x.2 []).contains y.2 || (an.getD y.2 []).contains x.2)).map fun y=>(x.2,y.2)
def looks (ops:Array Oper) (o:Oper):List Tmp :=
 (o.op.operands.toList.filterMap fun|.tmp t=>some t|_=>none) ++
 (match o.guard with
  | some (g,_)=>((ops[g]?).bind (·.dst)).toList
  | none=>[])
def drawOk (X:Cx) (ops:Array Oper) (an:List (List Nat)) (panics:Option Nat):Bool :=
 X.P.follows .mixedOrders &&
 (ops.toList.zipIdx.all fun x=>(bindsOn x.1).all (·<x.2)) &&
 (ops.toList.all fun o=>(match o.op with|.select ..=>false|_=>true) && (hintOf X.h o.dst).isEmpty) &&
 (ops.toList.zipIdx.all fun x=>ops.toList.zipIdx.all fun y=>decide (y.2≤x.2) ||
  (let before:=(an.getD y.2 []).contains x.2
   -- x ahead of y in the text
   before ||
   (!(isEff X x.1 && isEff X y.1) &&
    (match x.1.dst with|some t=>!(looks ops y.1).contains t && y.1.dst != some t|none=>true) &&
    (match y.1.dst with|some t=>!(looks ops x.1).contains t|none=>true)))) &&
 (match panics with
  | none=>true
  | some i=>ops.toList.zipIdx.all fun y=>decide (y.2≤i) || (an.getD y.2 []).contains i || (match y.1.op with|.move _|.assign _=>y.1.guard.isNone|_=>false))
def sameAt (T:List TStep) (p:Nat×Nat):Prop :=
 match T[p.1]?,T[p.2]? with
 | some l,some m=>sameAd l.ad m.A m.A'
 | _,_=>True
def allSame (T:List TStep):List (Nat×Nat)→Prop
 | []=>True
 | p::r=>sameAt T p∧allSame T r
def foldEnv:List (Oper×TStep)→List D→List D
 | [],e=>e
 | (o,s)::r,e=>foldEnv r (putD o.dst s.d e)
def forgetEnv:List Oper→List D→List D
 | [],e=>e
 | o::r,e=>forgetEnv r (putD o.dst .any e)
noncomputable def drawD (X:Cx) (ops:Array Oper) (e:Env) (A:St):Option Out :=
 (headD X ops.toList).bind fun H=>(traceD X ops ops.toList A.length e.t (appH A H)).bind fun r =>
  cond (drawOk X ops (ancAll ops) (r.2.map fun _=>r.1.length - 1))
   (guardP (allSame r.1 (loosePairs X ops (ancAll ops)))
    (some (match r.2 with
     | none=>⟨.normal,{ e with t:=foldEnv (ops.toList.zip r.1) e.t },(r.1.getLast?.map (·.A')).getD (appH A H)⟩
     | some p=>⟨.pan p,{ e with t:=forgetEnv ops.toList e.t },(r.1.getLast?.map (·.A')).getD (appH A H)⟩))) none

def expand (n:Nat) (e:Env):Env:={ e with t:=(List.range n).map fun i=>e.t.getD i .any }
def mask (n:Nat) (live:Option (List Nat)) (e:Env):Env :=
 match live with
 | none=>e
 | some l=>{ e with t:=(List.range n).map fun i=>cond (l.contains i) (e.t.getD i .any) .any }
def Env.shut (n:Nat) (e:Env):Env:={ t:=D.shutL n e.t,df:=e.df.map fun p=>(p.1.shut n,D.shutL n p.2) }
def Out.seq (n:Nat) (o:Out) (f:Env→St→Option Out):Option Out :=
 match o.ex with
 | .normal=>f (expand n o.env) o.st
 | ex=>some { o with ex }
def Out.norm (o:Out) (f:Env→St→Option Out):Option Out :=
 match o.ex with
 | .normal=>f o.env o.st
 | _=>some o
def Out.atEnd (n:Nat) (live:Option (List Nat)) (o:Out):Out :=
 match live with
 | none=>o
 | some l=>match o.ex with
  | .normal=>⟨.normal,mask n (some l) o.env,o.st⟩
  | ex=>⟨ex,o.env,o.st⟩
def Out.leave (o:Out) (f:Env→Option D→St→ORes):ORes :=
 match o.ex with
 | .normal|.ret=>f o.env none o.st
 | .pan p=>f o.env (some p) o.st
 | .exit _=>none
def Out.block (id:Nat) (o:Out):Out :=
 match o.ex with
 | .exit i=>{ o with ex:=if i=id then .normal else .exit i }
 | _=>o
def loopId:Code→Nat
 | .region id _ _=>id
 | .seq a _=>loopId a
 | .block _ c|.loop c|.scope c=>loopId c
 | .cond _ a _=>loopId a
 | _=>0
def condId (a b:Code):Nat:=if loopId a=0 then loopId b else loopId a
noncomputable def stepD (n:Nat) (live:Option (List Nat)) (keep:Bool) (body:Env→St→Option Out) (e:Env) (A:St):Option Out :=
 (body (expand n e) A).bind fun o=>o.norm fun e' A'=>cond keep (some ⟨.normal,mask n live e',A'⟩)
       (guardP (Kept A A') (some ⟨.normal,(mask n live e').shut A.length,A'.take A.length⟩))

def iterN:Nat→(Env→St→Option Out)→Env→St→Option Out
 | 0,_,_,_=>none
 | n+1,step,e,A=>(step e A).bind fun o=>match o.ex with
  | .normal=>iterN n step o.env o.st
  | _=>some o

def plainOp (o:Oper):Bool:=match o.op with
 | .defer _=>false
 | _=>true
def plainC:Code→Bool
 | .region _ ops _=>ops.all plainOp
 | .seq a b|.cond _ a b=>plainC a && plainC b
 | .block _ c|.loop c|.scope c=>plainC c
 | .rangeFunc ..=>false
 | _=>true
def noRf:Code→Bool
 | .seq a b|.cond _ a b=>noRf a && noRf b
 | .block _ c|.loop c|.scope c=>noRf c
 | .rangeFunc ..=>false
 | _=>true
def fnOk (fn : Func) : Bool := !(fn.name == "runtime.NumGoroutine") && fn.body.isSome
def seqCall (P:Program) (call:FuncId→List D→St→ORes) (f:D) (k:Nat) (A:St):ORes :=
 match f with
 | .fn (.func q) first cap=>cond ((P.funcs[q]?).any fnOk) (call q (first++[.yld false k]++cap) A) none
 | _=>none
def endRec (e:Env) (k:Nat) (A:St):Option Out :=
 match A[k]? with
 | some (.loop _ _ _ st)=>match st with
  | .ready=>some ⟨.normal,e,A.set k .dead⟩
  | .ret=>some ⟨.ret,e,A.set k .dead⟩
  | .exit id=>some ⟨.exit id,e,A.set k .dead⟩
  | .busy=>none
 | _=>none
def recSet (k:Nat) (st:RSt) (A:St):Option St :=
 match A[k]? with
 | some (.loop f t rf _)=>some (A.set k (.loop f t rf st))
 | _=>none
def recBusy (k:Nat) (A:St):Option St :=
 match A[k]? with
 | some (.loop f t rf .ready)=>some (A.set k (.loop f t rf .busy))
 | _=>none
def setParams:List Tmp→List D→List D→List D
 | t::ts,d::ds,e=>setParams ts ds (e.set t d)
 | _,_,e=>e
open Classical in
noncomputable def closeSt (A A':St):St:=(List.range A.length).map fun k=>if A'[k]?=A[k]? then A.getD k .dead else (A'.getD k .dead).shut A.length

noncomputable def codeD (X:Cx):Code→Env→St→Option Out
 | .skip,e,A=>some ⟨.normal,e,A⟩
 | .label _,e,A=>some ⟨.normal,e,A⟩
 | .region _ ops draw,e,A=>cond draw (drawD X ops e A) (opsD X ops ops.toList e A)
 | .seq a b,e,A=>(codeD X a e A).bind fun o=>o.seq X.n fun e A=>codeD X b e A
 | .cond c a b,e,A=>(evalO e.t c).bool?.bind fun t=>(cond t (codeD X a e A) (codeD X b e A)).map (Out.atEnd X.n (X.h.liveJ (condId a b)))
 | .block id c,e,A=>(codeD X c e A).map (Out.block id)
 | .loop c,e,A=>X.it (stepD X.n (X.h.live (loopId c)) (X.h.loopKeep (loopId c)) (codeD X c)) (mask X.n (X.h.live (loopId c)) e) A
 | .exit id,e,A=>some ⟨.exit id,e,A⟩
 | .ret,e,A=>some ⟨.ret,e,A⟩
 | .rangeFunc g ps x y,e,A=>cond (plainC x && plainC y)
   ((seqCall X.P X.call (evalO e.t g) (A.length+1) (A++[.dfb,.loop X.f (mask X.n (X.h.live (loopId y)) e).t (.rangeFunc g ps x y) .ready])).bind fun r =>
    r.1.elim (fun _=>endRec { e with df:=(.yld true A.length,[])::e.df } (A.length+1) r.2)
     (fun p=>some ⟨.pan p,{ e with df:=(.yld true A.length,[])::e.df },r.2⟩)) none
 | _,_,_=>none

noncomputable def roundEnd (k:Nat) (A:St) (o:Out):ORes :=
 match o.ex with
 | .normal=>(recSet k .ready o.st).map fun A'=>(.ret (.bool true),closeSt A A')
 | .ret=>(recSet k .ret o.st).map fun A'=>(.ret (.bool false),closeSt A A')
 | .exit id=>(recSet k (.exit id) o.st).map fun A'=>(.ret (.bool false),closeSt A A')
 | .pan d=>cond o.env.df.isEmpty (some (.pan (d.shut A.length),closeSt A o.st)) none
noncomputable def roundC (X:Cx) (k:Nat) (t:List D) (rf:Code) (args:List D) (A:St):ORes :=
 match rf with
 | .rangeFunc _ ps x y=>cond (plainC x && plainC y && (args.length == ps.size && t.length == X.n))
   ((codeD X x ⟨setParams ps.toList args t,[]⟩ A).bind fun o1=>match o1.ex with
    | .normal=>(recBusy k o1.st).bind fun A2=>(codeD X y (expand X.n o1.env) A2).bind (roundEnd k A)
    | _=>none) none
 | _=>none
noncomputable def roundD (P:Program) (cx:FuncId→Func→Cx) (args:List D) (A:St):ORes :=
 match args with
 | [.tup [.yld true k],.tup as]=>match A[k]? with
  | some (.loop f t rf .ready)=>(P.funcs[f]?).bind fun fn=>roundC (cx f fn) k t rf as A
  | _=>none
 | _=>none

def resultD (P:Program) (e:List D) (A:St):ResultVar→Option D
 | .tmp t=>some (e.getD t undefD)
 | .cell a t=>loadD P t (e.getD a undefD) A
def resultsD (P:Program) (e:List D) (A:St):List ResultVar→Option (List D)
 | []=>some []
 | r::rs=>(resultD P e A r).bind fun d=>(resultsD P e A rs).map (d::·)
def packD:List D→D
 | [d]=>d
 | ds=>.tup ds
def env0 (fn:Func) (args:List D):Env:={ t:=args++List.replicate (fn.ntmps - args.length) undefD,df:=[] }

abbrev PS:=Option (D×Bool)
structure SOut where
 ex:Ex
 env:Env
 ps:PS
 st:St
def recOp:Op→Bool
 | .call { callee:=.builtin .recover,.. }=>true
 | _=>false
def recoverPS:PS→D×PS
 | some (d,false)=>(d,some (d,true))
 | ps=>(.val .nilIface,ps)
def yldCall (e:List D) (op:Op):Bool :=
 match op with
 | .call { callee:=.value f,.. }=>match evalO e f with
  | .yld _ _=>true
  | _=>false
 | _=>false
def opsSD (X:Cx) (ops:Array Oper):List Oper→Env→PS→St→Option SOut
 | [],e,ps,A=>some ⟨.normal,e,ps,A⟩
 | o::os,e,ps,A=>cond (recOp o.op)
     (cond o.guard.isNone (opsSD X ops os { e with t:=putD o.dst (recoverPS ps).1 e.t } (recoverPS ps).2 A) none)
     ((cond (yldCall e.t o.op) none (opsD X ops [o] e A)).bind fun r=>match r.ex with
      | .normal=>opsSD X ops os r.env ps r.st
      | ex=>some ⟨ex,r.env,ps,r.st⟩)
def SOut.seq (n:Nat) (o:SOut) (f:Env→PS→St→Option SOut):Option SOut :=
 match o.ex with
 | .normal=>f (expand n o.env) o.ps o.st
 | ex=>some { o with ex }
noncomputable def codeSD (X:Cx):Code→Env→PS→St→Option SOut
 | .seq a b,e,ps,A=>(codeSD X a e ps A).bind fun o=>o.seq X.n fun e ps A=>codeSD X b e ps A
 | .cond c a b,e,ps,A=>(evalO e.t c).bool?.bind fun t=>cond t (codeSD X a e ps A) (codeSD X b e ps A)
 | .region id ops draw,e,ps,A=>cond (ops.any fun o=>recOp o.op) (cond draw none (opsSD X ops ops.toList e ps A))
   ((codeD X (.region id ops draw) e A).map fun o=>⟨o.ex,o.env,ps,o.st⟩)
 | c,e,ps,A=>(cond (noRf c) (codeD X c e A) none).map fun o=>⟨o.ex,o.env,ps,o.st⟩
def afterPS:PS→Option D
 | some (d,false)=>some d
 | _=>none
noncomputable def defD (X:Cx) (fn:Func) (args:List D) (p:Option D) (A:St):Option (Option D×St) :=
 cond (decide (args.length≤fn.ntmps) && X.n == fn.ntmps)
  (fn.body.bind fun c=>(codeSD X c (env0 fn args) (p.map fun d=>(d,false)) A).bind fun o =>
   (match o.ex with
    | .normal|.ret=>cond o.env.df.isEmpty ((resultsD X.P o.env.t o.st fn.results.toList).bind fun _ =>
      guardP (Kept A o.st) (some ((afterPS o.ps).map (D.shut A.length),o.st.take A.length))) none
    | _=>none)) none

def leavesD (dcall:D→List D→Option D→St→Option (Option D×St)) (res:St→Option D):List (D×List D)→Option D→St→ORes
 | [],none,A=>(res A).map fun d=>(.ret d,A)
 | [],some p,A=>some (.pan p,A)
 | (f,args)::r,p,A=>match f with
  | .yld true k=>match A[k]? with
   | some .dfb=>leavesD dcall res r p (A.set k .dead)
   | _=>none
  | f=>(dcall f args p A).bind fun x=>leavesD dcall res r x.1 x.2

def canA (h:Hints) (args:List D):List D:=cond h.canA (args.map D.canon) args
noncomputable def funD (X:Cx) (dcall:D→List D→Option D→St→Option (Option D×St)) (fn:Func) (args:List D) (A:St):ORes :=
 cond (decide (args.length≤fn.ntmps) && X.n == fn.ntmps)
  (fn.body.bind fun c=>(codeD X c (env0 fn (canA X.h args)) A).bind fun o =>
   (o.leave fun e p A'=>leavesD dcall (fun A'=>(resultsD X.P e.t A' fn.results.toList).map packD) e.df p A').bind fun r=>leaveD X.h.ret A r.1 r.2) none

structure Ext0 where
 hint:FuncId→Hints
 ext:FuncId→Option (List D→St→ORes)
def mkCx (P:Program) (H:Ext0) (call:FuncId→List D→St→ORes) (it:(Env→St→Option Out)→Env→St→Option Out) (f:FuncId) (fn:Func):Cx :=
 { P,h:=H.hint f,call,it,n:=fn.ntmps,f }
noncomputable def dcallD (P:Program) (H:Ext0) (call:FuncId→List D→St→ORes) (it:(Env→St→Option Out)→Env→St→Option Out) (f:D) (args:List D) (p:Option D) (A:St):Option (Option D×St) :=
 match f with
 | .fn (.func g) first cap=>(P.funcs[g]?).bind fun fn=>cond (fnOk fn) (defD (mkCx P H call it g fn) fn (first++args++cap) p A) none
 | _=>none
noncomputable def bodyD (P:Program) (H:Ext0) (call:FuncId→List D→St→ORes) (it:(Env→St→Option Out)→Env→St→Option Out) (f:FuncId) (args:List D) (A:St):ORes :=
 cond (Nat.beq f rOff) (roundD P (mkCx P H call it) args A)
  (match H.ext f with
  | some x=>x args A
  | none=>(P.funcs[f]?).bind fun fn=>cond (fnOk fn) (funD (mkCx P H call it f fn) (dcallD P H call it) fn args A) none)
noncomputable def runN (P:Program) (H:Ext0):Nat→FuncId→List D→St→ORes
 | 0,_,_,_=>none
 | k+1,f,args,A=>bodyD P H (runN P H k) (iterN k) f args A

end Go.Vm
