/- How the operations on data come out: rows for simp. -/
import Derived.Test.YtagmpieoalkneaaGreatDoorVmNf
set_option linter.all false
namespace Go.Vm
open Go.RowKit

@[simp] theorem bool?_bool (b:Bool):(D.bool b).bool?=some b:=rfl
@[simp] theorem guardB_bool (w b:Bool):guardB w (.bool b)=some (b == w):=rfl
@[simp] theorem guardB_undef (w:Bool):guardB w (.tup [])=some false:=rfl
theorem qbe (n:Nat) (l:Bool) (k:IntKind) (a b:Int):binO .add n l (.int k a) (.int k b)=some (.int k (k.wrap (a+b))):=by simp [binO,intBinD]
theorem qb9 (n:Nat) (l:Bool) (k:IntKind) (a b:Int):binO .sub n l (.int k a) (.int k b)=some (.int k (k.wrap (a - b))):=by simp [binO,intBinD]
theorem binO_lss (n:Nat) (l:Bool) (k:IntKind) (a b:Int):binO .lss n l (.int k a) (.int k b)=some (.bool (decide (a<b))):=by simp [binO,intBinD]
theorem binO_leq (n:Nat) (l:Bool) (k:IntKind) (a b:Int):binO .leq n l (.int k a) (.int k b)=some (.bool (decide (a≤b))):=by simp [binO,intBinD]
theorem binO_gtr (n:Nat) (l:Bool) (k:IntKind) (a b:Int):binO .gtr n l (.int k a) (.int k b)=some (.bool (decide (a > b))):=by simp [binO,intBinD]
theorem binO_geq (n:Nat) (l:Bool) (k:IntKind) (a b:Int):binO .geq n l (.int k a) (.int k b)=some (.bool (decide (a ≥ b))):=by simp [binO,intBinD]
theorem binO_eql (n:Nat) (l:Bool) (k:IntKind) (a b:Int):binO .eql n l (.int k a) (.int k b)=some (.bool (a == b)):=by simp [binO,intBinD]
theorem binO_neq (n:Nat) (l:Bool) (k:IntKind) (a b:Int):binO .neq n l (.int k a) (.int k b)=some (.bool (a != b)):=by simp [binO,intBinD]
theorem binO_or (n:Nat) (l:Bool) (k:IntKind) (a b:Int):binO .or n l (.int k a) (.int k b)=some (.int k (k.wrap (BitVec.ofInt k.bits a ||| BitVec.ofInt k.bits b).toNat)):=by simp [binO,intBinD]
theorem qa5 {n:Int} (h:-9223372036854775808≤n) (h':n≤9223372036854775807):IntKind.wrap .i64 n=n:=by
 simp [IntKind.wrap,IntKind.bits,IntKind.signed];omega
@[simp] theorem conv_str (s:List UInt8):convO .str (.str s)=some (.str s):=rfl

theorem bytesD_str (s:List UInt8):bytesD (strBytes s)=some s:=by
 unfold strBytes
 induction s with
 | nil=>rfl
 | cons b s ih =>
  simp only [List.map_cons,bytesD,ih,Option.map_some,Option.some.injEq,List.cons.injEq,and_true]
  simp
theorem convBytes (o:Own) (s:List UInt8):convO .bytesStr (.sl o 1 (strBytes s))=some (.str s):=by simp [convO,convBytesStr,esOk,bytesD_str]
theorem convBytes0 (es:Nat):convO .bytesStr (.sl .full es [])=some (.str []):=by simp [convO,convBytesStr,esOk,bytesD,Own.isOwn]
@[simp] theorem strBytes_length (s:List UInt8):(strBytes s).length=s.length:=by simp [strBytes]
theorem strBytes_append (s t:List UInt8):strBytes (s++t)=strBytes s++strBytes t:=by simp [strBytes]
@[simp] theorem shutL_str (n:Nat) (s:List UInt8):D.shutL n (strBytes s)=strBytes s:=by
 rw [shutL_eq]
 unfold strBytes
 rw [List.map_map]
 rfl
@[simp] theorem qao (n:Nat) (k:IntKind) (x:Int):(D.int k x).shut n=.int k x:=by simp [D.shut]
@[simp] theorem qaw (n:Nat) (b:Bool):(D.bool b).shut n=.bool b:=by simp [D.shut]
@[simp] theorem qbr (n:Nat):(D.any).shut n=.any:=by simp [D.shut]
@[simp] theorem shut_strD (n:Nat) (s:List UInt8):(D.str s).shut n=.str s:=by simp [D.shut]
@[simp] theorem shut_val (n:Nat) (v:Value):(D.val v).shut n=.val v:=by simp [D.shut]
@[simp] theorem shut_sl (n:Nat) (o:Own) (es:Nat) (ds:List D):(D.sl o es ds).shut n=.sl (o.shut n) es (D.shutL n ds):=by simp [D.shut]
@[simp] theorem shut_agg (n:Nat) (cs:List D):(D.agg cs).shut n=.agg (D.shutL n cs):=by simp [D.shut]
@[simp] theorem shut_tup (n:Nat) (cs:List D):(D.tup cs).shut n=.tup (D.shutL n cs):=by simp [D.shut]
@[simp] theorem shut_peek (n:Nat) (cs:List D):(D.peek cs).shut n=.peek (D.shutL n cs):=by simp [D.shut]
@[simp] theorem shut_iface (n:Nat) (t:TypeId) (d:D):(D.iface t d).shut n=.iface t (d.shut n):=by simp [D.shut]
theorem shut_ref {n k:Nat} (off:Nat) (h:k<n):(D.ref k off).shut n=.ref k off:=by simp [D.shut,h]
@[simp] theorem qby (n:Nat):D.shutL n []=[]:=by simp [D.shutL]
@[simp] theorem qbv (n:Nat) (d:D) (ds:List D):D.shutL n (d::ds)=d.shut n::D.shutL n ds:=by simp [D.shutL]
@[simp] theorem own_sh (n:Nat):Own.sh.shut n=.sh:=rfl
@[simp] theorem own_full (n:Nat):Own.full.shut n=.full:=rfl
theorem own_own {n c:Nat} (s:Nat) (h:c<n):(Own.own c s).shut n=.own c s:=by simp [Own.shut,h]
theorem own_new {n c:Nat} (s:Nat) (h:¬ c<n):(Own.own c s).shut n=.sh:=by simp [Own.shut,h]

@[simp] theorem qar (A:St):Kept A A↔True:=by simp [Kept]
@[simp] theorem qam (A B:St):Kept A (A++B)↔True:=by
 simp only [Kept,iff_true,List.length_append]
 refine ⟨by omega,fun k hk=>.inl ?_⟩
 rw [List.getElem?_append_left hk]
theorem Kept_set {A B:St} (hl:A.length≤B.length) (hB:Kept A B) {k:Nat} {s:Slot} (hs:s.shut A.length=s):Kept A (B.set k s):=by
 refine ⟨by simpa using hl,fun j hj=>?_⟩
 by_cases e:k=j
 ·subst e
  rw [List.getElem?_set_self (by omega)]
  exact .inr ⟨s,rfl,hs⟩
 ·rw [List.getElem?_set_ne e]
  exact hB.2 j hj
theorem Kept_set_self {A:St} {k:Nat} {s:Slot} (hs:s.shut A.length=s):Kept A (A.set k s):=Kept_set (Nat.le_refl _) ((qar A).2 trivial) hs
@[simp] theorem tok_shut (n m:Nat):(Slot.tok m).shut n=.tok m:=rfl
@[simp] theorem cells_shut (n:Nat) (cs:List D):(Slot.cells cs).shut n=.cells (D.shutL n cs):=rfl
@[simp] theorem leave_keep (A:St) (r:Res) (A':St):leaveD .keep A r A'=some (r,A'):=rfl
@[simp] theorem qad (n:Nat) (d:D):(Res.ret d).shut n=.ret (d.shut n):=rfl
@[simp] theorem Res_shut_pan (n:Nat) (d:D):(Res.pan d).shut n=.pan (d.shut n):=rfl
@[simp] theorem qax (dc:D→List D→Option D→St→Option (Option D×St)) (res:St→Option D) (A:St):leavesD dc res [] none A=(res A).map fun d=>(.ret d,A):=rfl
@[simp] theorem leaves_pan (dc:D→List D→Option D→St→Option (Option D×St)) (res:St→Option D) (p:D) (A:St):leavesD dc res [] (some p) A=some (.pan p,A):=rfl
theorem leaves_cons (dc:D→List D→Option D→St→Option (Option D×St)) (res:St→Option D) (f:Fn) (x y:List D) (args:List D) (r:List (D×List D)) (p:Option D) (A:St) :
  leavesD dc res ((.fn f x y,args)::r) p A=(dc (.fn f x y) args p A).bind fun x=>leavesD dc res r x.1 x.2:=rfl
theorem leaves_mark (dc:D→List D→Option D→St→Option (Option D×St)) (res:St→Option D) (k:Nat) (args:List D) (r:List (D×List D)) (p:Option D) (A:St) (h:A[k]?=some .dfb) :
  leavesD dc res ((.yld true k,args)::r) p A=leavesD dc res r p (A.set k .dead):=by
 simp only [leavesD,h]
theorem yld_call (call:FuncId→List D→St→ORes) (k:Nat) (args:List D) (A:St) {f:FuncId} {t:List D} {rf:Code} (h:A[k]?=some (.loop f t rf .ready)) :
  applyD call (.yld false k) args A=call rOff [.tup [.yld true k],.tup args] A:=by
 simp only [applyD,h]
@[simp] theorem dfb_shut (n:Nat):Slot.dfb.shut n=.dfb:=rfl
@[simp] theorem loop_shut (n:Nat) (f:FuncId) (t:List D) (rf:Code) (st:RSt):(Slot.loop f t rf st).shut n=.loop f (D.shutL n t) rf st:=rfl
@[simp] theorem dead_shut (n:Nat):Slot.dead.shut n=.dead:=rfl
@[simp] theorem nilCheck_ref (k o:Nat):nilCheckD (.ref k o)=some (.ref k o):=rfl
@[simp] theorem nilCheck_peek (cs:List D):nilCheckD (.peek cs)=some (.peek cs):=rfl
@[simp] theorem qaf (off k o:Nat):fieldAddrO off (.ref k o)=some (.ref k (o+off)):=rfl
@[simp] theorem qbt (off:Nat) (cs:List D):fieldAddrO off (.peek cs)=some (.peek (cs.drop off)):=rfl
@[simp] theorem lenSl_sl (o:Own) (es:Nat) (ds:List D):lenSlO (.sl o es ds)=some (.int .i64 ds.length):=rfl
@[simp] theorem qb0 (s:List UInt8):lenStrO (.str s)=some (.int .i64 s.length):=rfl
theorem load_ref {g:Bool} {n k off:Nat} {A:St} {cs:List D} (h:A[k]?=some (.cells cs)):loadO g n (.ref k off) A=ofCells g cs off n:=by simp [loadO,h]
@[simp] theorem qav (g:Bool) (n:Nat) (cs:List D) (A:St):loadO g n (.peek cs) A=ofCells g cs 0 n:=rfl
theorem cell_int (k:IntKind) (n:Int):(D.int k n).cellsT false=some [.int k n]:=rfl
def be:Nat→Nat→List UInt8
 | 0,_=>[]
 | n+1,x=>(x / 256 ^ n).toUInt8::be n x
@[simp] theorem be_length (n x:Nat):(be n x).length=n:=by induction n with
 | zero=>rfl
 | succ n ih=>simp [be,ih]
theorem beq_t {a b:Int} (h:a=b):(a == b)=true:=by simp [h]
theorem beq_f {a b:Int} (h:¬ a=b):(a == b)=false:=by simp [h]
theorem bne_t {a b:Int} (h:¬ a=b):(a != b)=true:=by simp [bne,h]
theorem bne_f {a b:Int} (h:a=b):(a != b)=false:=by simp [h]
theorem qa4 (d:D) (cs:List D):ofCells false (d::cs) 0 1=some d:=rfl
theorem qb3 (d:D) (cs:List D) (k:Nat):ofCells false (d::cs) (k+1) 1=ofCells false cs k 1:=rfl
theorem parts_nil (n:Nat) (g:Bool) (i:Nat):sliceParts n g i []=some []:=rfl
theorem parts_int (i j:Nat) (k:IntKind) (x:Int) (r:List (Nat×D)) (h:i=j):sliceParts 1 false i ((j,.int k x)::r)=(sliceParts 1 false (i+1) r).map (.int k x::·):=by
 subst h;simp [sliceParts,cell_int]
theorem append_own {n b c s0:Nat} {ds new:List D} {y:D} {A:St} (hy:appendNew n y=some new) (hA:A[c]?=some (.tok (s0+ds.length))) (hr:roomOk (ds.length+new.length) b=true)
  (hl:ds.length+new.length≤9223372036854775807) :
  appendO n b (.sl (.own c s0) n ds) y A=some (.sl (.own c s0) n (ds++new),A.set c (.tok (s0+ds.length+new.length))):=by
 simp [appendO,appendS,hy,hA,hr,hl,esOk]
theorem leave_own_old {A:St} {c s es:Nat} {ds:List D} {A':St} (h:c<A.length) :
  leaveD .own A (.ret (.sl (.own c s) es ds)) A'=guardP (Kept A A') (some (.ret (.sl (.own c s) es (D.shutL A.length ds)),A'.take A.length)):=by
 simp [leaveD,h,Own.shut]
theorem leave_own_new {A:St} {c s es m:Nat} {ds:List D} {A':St} (h:¬ c<A.length) (hA:A'[c]?=some (.tok m)) :
  leaveD .own A (.ret (.sl (.own c s) es ds)) A'=guardP (Kept A A') (some (.ret (.sl (.own A.length s) es (D.shutL A.length ds)),A'.take A.length++[.tok m])):=by
 simp [leaveD,h,hA]
def nums (l:List Nat):List D:=l.map fun n:Nat=>.int .u64 (n:Int)
@[simp] theorem nums_length (l:List Nat):(nums l).length=l.length:=by simp [nums]
@[simp] theorem shutL_nums (n:Nat) (l:List Nat):D.shutL n (nums l)=nums l:=by
 rw [shutL_eq];unfold nums;rw [List.map_map];rfl
theorem cell_sl (o:Own) (es:Nat) (ds:List D):(D.sl o es ds).cellsT false=some [.sl o es ds]:=rfl
theorem qbp (cs:List D) (A:St):allocO cs A=some (.ref A.length 0,A++[.cells cs]):=rfl
theorem tok_vsl (off es es':Nat) (A:St) (h:1000000≤es):tokO [(off,es)] (.sl .full es' []) A=some (.vsl A.length 0 (es - 1000000) 0,A++[.cells []]):=by
 have h2:Nat.ble 1000000 es=true:=Nat.ble_eq_true_of_le h
 simp [tokO,tokD,tokCell,h2]
@[simp] theorem allCells_nil:allCells []=true:=rfl
theorem allCells_int (k:IntKind) (n:Int) (cs:List D):allCells (.int k n::cs)=allCells cs:=rfl
theorem allCells_sl (o:Own) (es:Nat) (ds:List D) (cs:List D):allCells (.sl o es ds::cs)=allCells cs:=rfl
theorem box_agg2 (cs:List D) (A:St):boxO true (.agg cs) A=cond (allCells cs) (some (.ref A.length 0,A++[.cells cs])) none:=by cases h:allCells cs<;>simp [boxO,D.cellsT,D.agg?,h,allocD]
theorem lay_int (a:D) (cs:List D) (k:IntKind) (x:Int):layCells false 1 0 (a::cs) (.int k x)=some (.int k x::cs):=by simp [layCells,cell_int,splice]
theorem lay_sl (a:D) (cs:List D) (o:Own) (es:Nat) (ds:List D):layCells false 1 0 (a::cs) (.sl o es ds)=some (.sl o es ds::cs):=by simp [layCells,cell_sl,splice]
theorem lay_s (n:Nat) (a:D) (cs:List D) (d:D):layCells false 1 (n+1) (a::cs) d=(layCells false 1 n cs d).map (a::·):=by
 unfold layCells
 cases h:d.cellsT false with
 | none=>rfl
 | some vs =>
  simp only [Option.bind_some,List.length_cons]
  by_cases h1:vs.length=1∧n+1≤cs.length
  ·rw [if_pos h1,if_pos ⟨h1.1,by omega⟩]
   simp [splice,Nat.add_right_comm]
  ·rw [if_neg h1,if_neg (fun h2=>h1 ⟨h2.1,by omega⟩)]
   rfl
theorem ofA2 (a b:D):ofCells true [a,b] 0 2=some (.agg [a,b]):=rfl
theorem ofA3 (a b c:D):ofCells true [a,b,c] 0 3=some (.agg [a,b,c]):=rfl
def Own.adv (o:Own) (n:Nat):Own:=match o with|.own c s=>.own c (s+n)|o=>o
section
variable {α β γ:Type} {r:Option β}
theorem st_some {a:α} {f:α→Option β} (h:f a=r):bn (some a) f=r:=h
theorem st_bnbn {x:Option γ} {g:γ→Option α} {f:α→Option β} (h:bn x (fun a=>bn (g a) f)=r):bn (bn x g) f=r:=by cases x<;>exact h
theorem st_map {x:Option γ} {g:γ→α} {f:α→Option β} (h:bn x (fun a=>f (g a))=r):bn (x.map g) f=r:=by cases x<;>exact h
theorem st_bnif {c:Bool} {x y:Option α} {f:α→Option β} (h:ifb c (bn x f) (bn y f)=r):bn (ifb c x y) f=r:=by cases c<;>exact h
theorem st_ret {d:D} {g k:D→Option β} (h:g d=r):(Res.ret d).elim g k=r:=h
theorem st_pan {d:D} {g k:D→Option β} (h:k d=r):(Res.pan d).elim g k=r:=h
theorem st_guard {x:Option β} (h:x=r):guardP True x=r:=by rw [qae];exact h
end
theorem sameAd_refl (ad:D) (A:St):sameAd ad A A↔True:=by
 unfold sameAd
 split<;>simp
variable {α β γ:Type}
theorem st_gs0 {x:Option β} {r:Option β} (h:x=r):gsM mL [] x=r:=by rw [mL_gs0];exact h
theorem st_gs1 {ad:D} {A A':St} {l:List (D×St×St)} {x:Option β} {r:Option β} (h:guardP (sameAd ad A A') (gsM mL l x)=r):gsM mL ((ad,A,A')::l) x=r:=by rw [mL_gs1];exact h
theorem st_gk {A A':St} {x:Option β} {r:Option β} (h:guardP (Kept A A') x=r):gkM mL A A' x=r:=h
theorem st_leave {k:RetK} {A A':St} {x:Res} {r:ORes} (h:leaveD k A x A'=r):leaveM mL k A x A'=r:=by rw [leaveM_mL];exact h
def Tot {β:Type} (P:β→Prop) (x:Option β):Prop:=∃ r,x=some r∧P r
theorem qbh {P:β→Prop} {x y:Option β} (h:x=y) (k:Tot P y):Tot P x:=h ▸ k
theorem qal {P:β→Prop} {r:β} (h:P r):Tot P (some r):=⟨r,rfl,h⟩
theorem Tot.mono {P Q:β→Prop} {x:Option β} (h:Tot P x) (k:∀ r,P r→Q r):Tot Q x:=by obtain ⟨r,h1,h2⟩:=h;exact ⟨r,h1,k r h2⟩
theorem tot_bn {P:β→Prop} {Q:α→Prop} {x:Option α} {f:α→Option β} (h:Tot Q x) (k:∀ a,Q a→Tot P (f a)):Tot P (bn x f):=by
 obtain ⟨a,h1,h2⟩:=h
 rw [h1]
 exact k a h2
theorem tot_gb {P:β→Prop} {w b:Bool} {f:Bool→Option β} (ht:b=true→Tot P (Vm.bn (guardB w (.bool true)) f)) (hf:b=false→Tot P (Vm.bn (guardB w (.bool false)) f)):Tot P (Vm.bn (guardB w (.bool b)) f):=by
 cases b
 ·exact hf rfl
 ·exact ht rfl
theorem tot_bq {P:β→Prop} {b:Bool} {f:Bool→Option β} (ht:b=true→Tot P (f true)) (hf:b=false→Tot P (f false)):Tot P (Vm.bn (D.bool? (.bool b)) f):=by
 cases b
 ·exact hf rfl
 ·exact ht rfl
theorem tot_lss {P:β→Prop} {n:Nat} {l:Bool} {k:IntKind} {a b:Int} {f:D→Option β} (ht:a<b→Tot P (f (.bool true))) (hf:¬ a<b→Tot P (f (.bool false))):Tot P (Vm.bn (binO .lss n l (.int k a) (.int k b)) f):=by
 rw [binO_lss]
 by_cases h:a<b
 ·rw [decide_eq_true h];exact ht h
 ·rw [decide_eq_false h];exact hf h
theorem qas {P:β→Prop} {n:Nat} {l:Bool} {k:IntKind} {a b:Int} {f:D→Option β} (h:a<b) (ht:Tot P (f (.bool true))):Tot P (Vm.bn (binO .lss n l (.int k a) (.int k b)) f):=tot_lss (fun _=>ht) fun h'=>absurd h h'
theorem qa2 {P:β→Prop} {n:Nat} {l:Bool} {k:IntKind} {a b:Int} {f:D→Option β} (h:¬ a<b) (hf:Tot P (f (.bool false))):Tot P (Vm.bn (binO .lss n l (.int k a) (.int k b)) f):=tot_lss (fun h'=>absurd h' h) fun _=>hf
theorem tot_leq {P:β→Prop} {n:Nat} {l:Bool} {k:IntKind} {a b:Int} {f:D→Option β} (ht:a≤b→Tot P (f (.bool true))) (hf:¬ a≤b→Tot P (f (.bool false))):Tot P (Vm.bn (binO .leq n l (.int k a) (.int k b)) f):=by
 rw [binO_leq]
 by_cases h:a≤b
 ·rw [decide_eq_true h];exact ht h
 ·rw [decide_eq_false h];exact hf h
theorem tot_leq_t {P:β→Prop} {n:Nat} {l:Bool} {k:IntKind} {a b:Int} {f:D→Option β} (h:a≤b) (ht:Tot P (f (.bool true))):Tot P (Vm.bn (binO .leq n l (.int k a) (.int k b)) f):=tot_leq (fun _=>ht) fun h'=>absurd h h'
theorem tot_leq_f {P:β→Prop} {n:Nat} {l:Bool} {k:IntKind} {a b:Int} {f:D→Option β} (h:¬ a≤b) (hf:Tot P (f (.bool false))):Tot P (Vm.bn (binO .leq n l (.int k a) (.int k b)) f):=tot_leq (fun h'=>absurd h' h) fun _=>hf
theorem tot_gtr {P:β→Prop} {n:Nat} {l:Bool} {k:IntKind} {a b:Int} {f:D→Option β} (ht:a > b→Tot P (f (.bool true))) (hf:¬ a > b→Tot P (f (.bool false))):Tot P (Vm.bn (binO .gtr n l (.int k a) (.int k b)) f):=by
 rw [binO_gtr]
 by_cases h:a > b
 ·rw [decide_eq_true h];exact ht h
 ·rw [decide_eq_false h];exact hf h
theorem qbx {P:β→Prop} {n:Nat} {l:Bool} {k:IntKind} {a b:Int} {f:D→Option β} (h:a > b) (ht:Tot P (f (.bool true))):Tot P (Vm.bn (binO .gtr n l (.int k a) (.int k b)) f):=tot_gtr (fun _=>ht) fun h'=>absurd h h'
theorem qbo {P:β→Prop} {n:Nat} {l:Bool} {k:IntKind} {a b:Int} {f:D→Option β} (h:¬ a > b) (hf:Tot P (f (.bool false))):Tot P (Vm.bn (binO .gtr n l (.int k a) (.int k b)) f):=tot_gtr (fun h'=>absurd h' h) fun _=>hf
theorem tot_geq {P:β→Prop} {n:Nat} {l:Bool} {k:IntKind} {a b:Int} {f:D→Option β} (ht:a ≥ b→Tot P (f (.bool true))) (hf:¬ a ≥ b→Tot P (f (.bool false))):Tot P (Vm.bn (binO .geq n l (.int k a) (.int k b)) f):=by
 rw [binO_geq]
 by_cases h:a ≥ b
 ·rw [decide_eq_true h];exact ht h
 ·rw [decide_eq_false h];exact hf h
theorem tot_geq_t {P:β→Prop} {n:Nat} {l:Bool} {k:IntKind} {a b:Int} {f:D→Option β} (h:a ≥ b) (ht:Tot P (f (.bool true))):Tot P (Vm.bn (binO .geq n l (.int k a) (.int k b)) f):=tot_geq (fun _=>ht) fun h'=>absurd h h'
theorem qb8 {P:β→Prop} {n:Nat} {l:Bool} {k:IntKind} {a b:Int} {f:D→Option β} (h:¬ a ≥ b) (hf:Tot P (f (.bool false))):Tot P (Vm.bn (binO .geq n l (.int k a) (.int k b)) f):=tot_geq (fun h'=>absurd h' h) fun _=>hf
theorem tot_eql {P:β→Prop} {n:Nat} {l:Bool} {k:IntKind} {a b:Int} {f:D→Option β} (ht:a=b→Tot P (f (.bool true))) (hf:¬ a=b→Tot P (f (.bool false))):Tot P (Vm.bn (binO .eql n l (.int k a) (.int k b)) f):=by
 rw [binO_eql]
 by_cases h:a=b
 ·rw [beq_t h];exact ht h
 ·rw [beq_f h];exact hf h
theorem qbn {P:β→Prop} {n:Nat} {l:Bool} {k:IntKind} {a b:Int} {f:D→Option β} (h:a=b) (ht:Tot P (f (.bool true))):Tot P (Vm.bn (binO .eql n l (.int k a) (.int k b)) f):=tot_eql (fun _=>ht) fun h'=>absurd h h'
theorem qbw {P:β→Prop} {n:Nat} {l:Bool} {k:IntKind} {a b:Int} {f:D→Option β} (h:¬ a=b) (hf:Tot P (f (.bool false))):Tot P (Vm.bn (binO .eql n l (.int k a) (.int k b)) f):=tot_eql (fun h'=>absurd h' h) fun _=>hf
theorem tot_seql {P:β→Prop} {n:Nat} {l:Bool} {a b:List UInt8} {f:D→Option β} (ht:a=b→Tot P (f (.bool true))) (hf:¬ a=b→Tot P (f (.bool false))):Tot P (Vm.bn (binO .eql n l (.str a) (.str b)) f):=by
 have e:binO .eql n l (.str a) (.str b)=some (.bool (a == b)):=rfl
 rw [e]
 by_cases h:a=b
 ·rw [beq_iff_eq.2 h];exact ht h
 ·rw [beq_eq_false_iff_ne.2 h];exact hf h
theorem tot_seql_t {P:β→Prop} {n:Nat} {l:Bool} {a b:List UInt8} {f:D→Option β} (h:a=b) (ht:Tot P (f (.bool true))):Tot P (Vm.bn (binO .eql n l (.str a) (.str b)) f):=tot_seql (fun _=>ht) fun h'=>absurd h h'
theorem tot_seql_f {P:β→Prop} {n:Nat} {l:Bool} {a b:List UInt8} {f:D→Option β} (h:¬ a=b) (hf:Tot P (f (.bool false))):Tot P (Vm.bn (binO .eql n l (.str a) (.str b)) f):=tot_seql (fun h'=>absurd h' h) fun _=>hf
theorem tot_neq {P:β→Prop} {n:Nat} {l:Bool} {k:IntKind} {a b:Int} {f:D→Option β} (ht:a=b→Tot P (f (.bool false))) (hf:¬ a=b→Tot P (f (.bool true))):Tot P (Vm.bn (binO .neq n l (.int k a) (.int k b)) f):=by
 rw [binO_neq]
 by_cases h:a=b
 ·rw [bne_f h];exact ht h
 ·rw [bne_t h];exact hf h
theorem tot_neq_t {P:β→Prop} {n:Nat} {l:Bool} {k:IntKind} {a b:Int} {f:D→Option β} (h:a=b) (ht:Tot P (f (.bool false))):Tot P (Vm.bn (binO .neq n l (.int k a) (.int k b)) f):=tot_neq (fun _=>ht) fun h'=>absurd h h'
theorem tot_neq_f {P:β→Prop} {n:Nat} {l:Bool} {k:IntKind} {a b:Int} {f:D→Option β} (h:¬ a=b) (hf:Tot P (f (.bool true))):Tot P (Vm.bn (binO .neq n l (.int k a) (.int k b)) f):=tot_neq (fun h'=>absurd h' h) fun _=>hf
theorem tot_sneq {P:β→Prop} {n:Nat} {l:Bool} {a b:List UInt8} {f:D→Option β} (ht:a=b→Tot P (f (.bool false))) (hf:¬ a=b→Tot P (f (.bool true))):Tot P (Vm.bn (binO .neq n l (.str a) (.str b)) f):=by
 have e:binO .neq n l (.str a) (.str b)=some (.bool (!(a == b))):=rfl
 rw [e]
 by_cases h:a=b
 ·rw [beq_iff_eq.2 h];exact ht h
 ·rw [beq_eq_false_iff_ne.2 h];exact hf h
theorem tot_sneq_t {P:β→Prop} {n:Nat} {l:Bool} {a b:List UInt8} {f:D→Option β} (h:a=b) (ht:Tot P (f (.bool false))):Tot P (Vm.bn (binO .neq n l (.str a) (.str b)) f):=tot_sneq (fun _=>ht) fun h'=>absurd h h'
theorem tot_sneq_f {P:β→Prop} {n:Nat} {l:Bool} {a b:List UInt8} {f:D→Option β} (h:¬ a=b) (hf:Tot P (f (.bool true))):Tot P (Vm.bn (binO .neq n l (.str a) (.str b)) f):=tot_sneq (fun h'=>absurd h' h) fun _=>hf
theorem qag {P:β→Prop} {w b:Bool} {f:Bool→Option β} (h:Tot P (f (b == w))):Tot P (Vm.bn (guardB w (.bool b)) f):=h
theorem tot_gbn {P:β→Prop} {w:Bool} {f:Bool→Option β} (h:Tot P (f false)):Tot P (Vm.bn (guardB w (.tup [])) f):=h
theorem qaa {P:β→Prop} {b:Bool} {f:Bool→Option β} (h:Tot P (f b)):Tot P (Vm.bn (D.bool? (.bool b)) f):=h
theorem qap {P:β→Prop} {x y:Option β} (h:Tot P x):Tot P (Vm.ifb true x y):=h
theorem qan {P:β→Prop} {x y:Option β} (h:Tot P y):Tot P (Vm.ifb false x y):=h
theorem qbd {P:β→Prop} {x y:Option β} (h:Tot P x):Tot P (Vm.ifb (true == true) x y):=h
theorem qbj {P:β→Prop} {x y:Option β} (h:Tot P y):Tot P (Vm.ifb (false == true) x y):=h
theorem qbq {P:β→Prop} {x y:Option β} (h:Tot P y):Tot P (Vm.ifb (true == false) x y):=h
theorem qba {P:β→Prop} {x y:Option β} (h:Tot P x):Tot P (Vm.ifb (false == false) x y):=h
theorem Tot.call {P:β→Prop} {Q:Res×St→Prop} {x:ORes} {f:Res×St→Option β} (h:Tot Q x) (k:∀ r,Q r→Tot P (f r)):Tot P (Vm.bn x f):=tot_bn h k
@[simp] theorem qb5 (b:Bool):unD .not (.bool b)=some (.bool (!b)):=rfl

theorem qa6 (d:D) (r:List (Nat×D)) (t:Nat) (df:List (D×List D)):(Env.mk (sp ((0,d)::r) t) df).g 0=d:=rfl
theorem qa9 (d:D) (g k:Nat) (r:List (Nat×D)) (t:Nat) (df:List (D×List D)):(Env.mk (sp ((g+1,d)::r) t) df).g (k+1)=(Env.mk (sp ((g,d)::r) t) df).g k:=rfl
theorem qa8 (d:D) (k:Nat) (r:List (Nat×D)) (t:Nat) (df:List (D×List D)):(Env.mk (sp ((0,d)::r) t) df).g (k+1)=(Env.mk (sp r t) df).g k:=rfl
theorem qbc {α β:Type} (a:α) (f:α→β):mp (some a) f=some (f a):=rfl
theorem st_mp {α β γ:Type} {r:Option β} {x:Option γ} {g:γ→α} {f:α→Option β} (h:bn x (fun a=>f (g a))=r):bn (mp x g) f=r:=by cases x<;>exact h
def encL (n:Nat) (ds:List D):D:=.sl .sh (match ds with|[]=>0|_::_=>n) ds
theorem encL_nil (n:Nat):encL n []=.sl .sh 0 []:=rfl
structure Plain (d:D):Prop where
 shut:∀ n,d.shut n=d
 canon:d.canon=d
structure PlainL (ds:List D):Prop where
 shut:∀ n,D.shutL n ds=ds
 canon:D.canonL ds=ds
theorem PlainL.map {α:Type} {f:α→D} (h:∀ x,Plain (f x)) (l:List α):PlainL (l.map f):=by
 induction l with
 | nil=>exact ⟨fun n=>rfl,rfl⟩
 | cons x l ih=>exact ⟨fun n=>by simp [D.shutL,(h x).shut,ih.shut],by simp [D.canonL,(h x).canon,ih.canon]⟩
theorem encL_plain {ds:List D} (h:PlainL ds) (n:Nat):Plain (encL n ds):=by
 refine ⟨fun m=>?_, ?_⟩
 ·unfold encL;simp [h.shut]
 ·unfold encL
  cases ds with
  | nil=>rfl
  | cons d ds=>simp only [D.canon,h.canon]
theorem canon_sl {ds:List D} (h:PlainL ds) (o:Own) (n:Nat):(D.sl o n ds).canon=encL n ds:=by
 cases ds with
 | nil=>rfl
 | cons d ds=>simp only [D.canon,encL,h.canon]
@[simp] theorem qaj (k:IntKind) (n:Int):(D.int k n).canon=.int k n:=rfl
@[simp] theorem qau (b:Bool):(D.bool b).canon=.bool b:=rfl
@[simp] theorem qat (s:List UInt8):(D.str s).canon=.str s:=rfl
@[simp] theorem canon_any:D.any.canon=.any:=rfl
@[simp] theorem canon_ref (k o:Nat):(D.ref k o).canon=.ref k o:=rfl
@[simp] theorem canon_val (v:Value):(D.val v).canon=.val v:=rfl
@[simp] theorem canon_vsl (k o es n:Nat):(D.vsl k o es n).canon=.vsl k o es n:=rfl
theorem canon_agg (cs:List D):(D.agg cs).canon=.agg (D.canonL cs):=rfl
theorem qb7 (cs:List D):(D.tup cs).canon=.tup (D.canonL cs):=rfl
theorem canon_iface (t:TypeId) (d:D):(D.iface t d).canon=.iface t d.canon:=rfl
theorem qbu:D.canonL []=[]:=rfl
theorem qbm (d:D) (ds:List D):D.canonL (d::ds)=d.canon::D.canonL ds:=rfl
theorem canon_nil (o:Own) (es:Nat):(D.sl o es []).canon=.sl .sh 0 []:=rfl
@[simp] theorem qab (d:D):(Res.ret d).canon=.ret d.canon:=rfl
@[simp] theorem Res_canon_pan (d:D):(Res.pan d).canon=.pan d.canon:=rfl
theorem qah (A:St) (r:Res) (A':St):leaveD .can A r A'=guardP (Kept A A') (some ((r.shut A.length).canon,A'.take A.length)):=rfl
@[simp] theorem qa0 (n:Nat) (ds:List D):lenSlO (encL n ds)=some (.int .i64 ds.length):=rfl
theorem esOk_encL (n:Nat) (ds:List D):esOk .sh (match ds with|[]=>0|_::_=>n) n ds=true:=by
 cases ds<;>simp [esOk,Own.isOwn]
theorem idx_map {α:Type} {f:α→D} {l:List α} {i:Nat} (h:i<l.length) (n:Nat) (g:Bool) (k:IntKind):indexAddrO n g (encL n (l.map f)) (.int k (i:Int))=mp ((f l[i]).cellsT g) .peek:=by
 simp [indexAddrO,D.int?,encL,esOk_encL,List.getElem?_eq_getElem h,mp]
theorem appendNew_encL (n:Nat) (ds:List D):appendNew n (encL n ds)=some ds:=by
 simp [appendNew,encL,esOk_encL]
@[simp] theorem cell_encL (n:Nat) (ds:List D):(encL n ds).cellsT false=some [encL n ds]:=rfl
theorem cell_str (s:List UInt8):(D.str s).cellsT false=some [.str s]:=rfl
theorem qbb {β:Type} {x:Option β} {r:β} (h:Tot (fun y=>y=r) x):x=some r:=by
 obtain ⟨a,h1,h2⟩:=h
 rw [h1,h2]
theorem Tot.eqo {β:Type} {x y:Option β} {r:β} (hy:y=some r) (h:x=y):Tot (fun z=>z=r) x:=⟨r,h.trans hy,rfl⟩
theorem qay {β:Type} {x:Option β} {r:β} (h:x=some r):Tot (fun z=>z=r) x:=⟨r,h,rfl⟩
section
variable {α β:Type} {P:β→Prop} {b c w:Bool} {p:Prop} {dp:Decidable p}
theorem tot_gb_t {f:Bool→Option β} (h:b=true) (k:Tot P (Vm.bn (guardB w (.bool true)) f)):Tot P (Vm.bn (guardB w (.bool b)) f):=by subst h;exact k
theorem tot_gb_f {f:Bool→Option β} (h:b=false) (k:Tot P (Vm.bn (guardB w (.bool false)) f)):Tot P (Vm.bn (guardB w (.bool b)) f):=by subst h;exact k
theorem tot_gb_n {f:Bool→Option β} (k:Tot P (Vm.bn (guardB w (.bool b)) fun t=>f (!t))):Tot P (Vm.bn (guardB w (.bool (!b))) f):=by
 have e:guardB w (.bool (!b))=(guardB w (.bool b)).map (fun t=>!t):=by cases w<;>cases b<;>rfl
 rw [e]
 exact qbh (st_map rfl) k
theorem tot_bq_t {f:Bool→Option β} (h:b=true) (k:Tot P (f true)):Tot P (Vm.bn (D.bool? (.bool b)) f):=by subst h;exact k
theorem tot_bq_f {f:Bool→Option β} (h:b=false) (k:Tot P (f false)):Tot P (Vm.bn (D.bool? (.bool b)) f):=by subst h;exact k
theorem tot_bq_n {f:Bool→Option β} (k:Tot P (Vm.bn (D.bool? (.bool b)) fun t=>f (!t))):Tot P (Vm.bn (D.bool? (.bool (!b))) f):=k
theorem tot_bq_dt {f:Bool→Option β} (h:p) (k:Tot P (f true)):Tot P (Vm.bn (D.bool? (.bool (@decide p dp))) f):=by rw [decide_eq_true h];exact k
theorem tot_bq_df {f:Bool→Option β} (h:¬ p) (k:Tot P (f false)):Tot P (Vm.bn (D.bool? (.bool (@decide p dp))) f):=by rw [decide_eq_false h];exact k
theorem tot_bq_d {f:Bool→Option β} (ht:p→Tot P (f true)) (hf:¬ p→Tot P (f false)):Tot P (Vm.bn (D.bool? (.bool (@decide p dp))) f):=by
 by_cases h:p
 ·exact tot_bq_dt h (ht h)
 ·exact tot_bq_df h (hf h)
theorem tot_if_n {x y:Option β} (k:Tot P (Vm.ifb b y x)):Tot P (Vm.ifb (!b) x y):=by cases b<;>exact k
end
theorem beqt (b:Bool):(b == true)=b:=by cases b<;>rfl
def JnEq {γ:Type} (k f:Env→St→γ):Prop:=∀ e A,k e A=f e A
theorem tot_jn {β:Type} {P:β→Prop} {f:Env→St→Option β} {g:(Env→St→Option β)→Option β} (h:∀ k,JnEq k f→Tot P (g k)):Tot P (Vm.jn f g):=h f fun _ _=>rfl
theorem tot_jk {β:Type} {P:β→Prop} {k f:Env→St→Option β} {e:Env} {A:St} (h:JnEq k f) (t:Tot P (f e A)):Tot P (k e A):=by rw [h];exact t
theorem eg_0 (d:D) (r:List D) (df:List (D×List D)):Env.g ⟨d::r,df⟩ 0=d:=rfl
theorem eg_S (d:D) (r:List D) (df:List (D×List D)) (n:Nat):Env.g ⟨d::r,df⟩ (n+1)=Env.g ⟨r,df⟩ n:=rfl
theorem st_exn {α:Type} {kz:Ex→Option α} {kn kr:Option α} {ids:List (Nat×Option α)} {r:Option α} (h:kn=r):@exS α kz .normal kn kr ids=r:=h
section
variable {α β γ:Type} {r:Option β}
theorem qac {a:α} {f:α→Option β} {Q:_→Prop} (zz:Tot Q (f a)):Tot Q (bn (some a) f):=qbh (st_some rfl) zz
theorem tp_bnbn {x:Option γ} {g:γ→Option α} {f:α→Option β} {Q:_→Prop} (zz:Tot Q (bn x (fun a=>bn (g a) f))):Tot Q (bn (bn x g) f):=qbh (st_bnbn rfl) zz
theorem qaz {c:Bool} {x y:Option α} {f:α→Option β} {Q:_→Prop} (zz:Tot Q (ifb c (bn x f) (bn y f))):Tot Q (bn (ifb c x y) f):=qbh (st_bnif rfl) zz
theorem qa1 {d:D} {g k:D→Option β} {Q:_→Prop} (zz:Tot Q (g d)):Tot Q ((Res.ret d).elim g k):=qbh (st_ret rfl) zz
theorem tp_pan {d:D} {g k:D→Option β} {Q:_→Prop} (zz:Tot Q (k d)):Tot Q ((Res.pan d).elim g k):=qbh (st_pan rfl) zz
theorem qbg {x:Option β} {Q:_→Prop} (zz:Tot Q (x)):Tot Q (guardP True x):=qbh (st_guard rfl) zz
theorem tp_gs0 {x:Option β} {Q:_→Prop} (zz:Tot Q (x)):Tot Q (gsM mL [] x):=qbh (st_gs0 rfl) zz
theorem tp_gs1 {ad:D} {A A':St} {l:List (D×St×St)} {x:Option β} {Q:_→Prop} (zz:Tot Q (guardP (sameAd ad A A') (gsM mL l x))):Tot Q (gsM mL ((ad,A,A')::l) x):=qbh (st_gs1 rfl) zz
theorem tp_gk {A A':St} {x:Option β} {Q:_→Prop} (zz:Tot Q (guardP (Kept A A') x)):Tot Q (gkM mL A A' x):=qbh (st_gk rfl) zz
theorem qai {k:RetK} {A A':St} {x:Res} {Q:_→Prop} (zz:Tot Q (leaveD k A x A')):Tot Q (leaveM mL k A x A'):=qbh (st_leave rfl) zz
theorem qa3 {α β γ:Type} {x:Option γ} {g:γ→α} {f:α→Option β} {Q:_→Prop} (zz:Tot Q (bn x (fun a=>f (g a)))):Tot Q (bn (mp x g) f):=qbh (st_mp rfl) zz
theorem tp_exn {α:Type} {kz:Ex→Option α} {kn kr:Option α} {ids:List (Nat×Option α)} {Q:_→Prop} (zz:Tot Q (kn)):Tot Q (@exS α kz .normal kn kr ids):=qbh (st_exn rfl) zz
end
attribute [simp] sp anys
end Go.Vm
