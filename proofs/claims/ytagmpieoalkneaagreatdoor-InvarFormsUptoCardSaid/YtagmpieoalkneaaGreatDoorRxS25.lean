/- RxS23, VmSt3, RxS24, RxS25 in one text. -/
import Derived.Test.YtagmpieoalkneaaGreatDoorRxS22
import Derived.Test.YtagmpieoalkneaaGreatDoorRxS13
set_option linter.all false
/- The program's reader of words: its small functions. -/
namespace Go.Vm.Rx
open Go Go.Proofs P
set_option maxRecDepth 10000
set_option maxHeartbeats 1100000
def psC (l:List Word) (i o:Int):List D:=[encL 3 (l.map encW),.int .i64 i,.int .i64 o]
section
variable (l:List Word) (i o x:Int)
end
def idxStr (w:Str):List Str→Int→Int
 | [],_=>-1
 | x::r,i=>if w=x then i else idxStr w r (i+1)
theorem idxStr_ge (w:Str):∀ (ws:List Str) (i:Int),0≤i→(0≤idxStr w ws i↔w ∈ ws)
 | [],i,h=>by simp [idxStr]
 | x::r,i,h=>by
  unfold idxStr
  split
  ·rename_i e;simp [e,h]
  ·rename_i e
   rw [idxStr_ge w r (i+1) (by omega)]
   simp [e]
theorem s162_loop (A:St) (w:Str) (hwl:w.length≤100000000) (ws:List Str) (hl:ws.length≤100000):∀ (t:List Str) (i:Nat),ws.drop i=t→i≤ws.length →
  LP Tryz.prog rxA 162 [0,1,0,1] [A] (Env.mk (sp [(0,encL 1 (ws.map .str)),(0,.str w),(5,.int .i64 (ws.length:Nat)),(0,.int .i64 (i:Nat))] 10) []) A=some (.ret (.int .i64 (idxStr w t i)),A):=by
 intro t
 induction t with
 | nil =>
  intro i ht hi
  have h1:=qb1 ht
  refine qbb (qbh (q162_0 ..) ?_)
  unfold n162_0;dsimp only
  (repeat' first|(with_reducible first|apply qai|apply qaa (b:=false)|apply qan)|((conv=>arg 2;arg 1;simp only [Option.map_some,qax,qa6,qa9,qa8]);(with_reducible first|apply qac|(apply qa2;omega))))
  all_goals (((try conv=>arg 2;simp only [qae,qao,qar,qad,List.take_length,qaj,qab,qah]);refine qal ?_);rfl)
 | cons x t ih =>
  intro i ht hi
  have h1:=qbz ht
  have hx:=qb6 (f:=D.str) ht 1 false .i64
  have hsh:∀ n,(encL 1 (ws.map .str)).shut n=encL 1 (ws.map .str):=fun n=>(encL_plain (PlainL.map (fun s=>⟨fun _=>rfl,rfl⟩) ws) 1).shut n
  refine qbb (qbh (q162_0 ..) ?_)
  unfold n162_0;dsimp only
  unfold idxStr
  by_cases he:w=x
  ·rw [if_pos he]
   (repeat' first|(with_reducible first|apply qa3|apply qai|apply qaa (b:=true)|apply qap)|((conv=>arg 2;arg 1;simp (disch:=first|omega|assumption) only [Option.map_some,qax,qav,qa4,qa6,qa9,qa8,qbc,cell_str,hx]);(with_reducible first|apply qac|(apply qas;omega)|(apply tot_seql_t;first|assumption|with_reducible rfl))))
   all_goals (((try conv=>arg 2;simp only [qae,qao,qar,qad,List.take_length,qaj,qab,qah]);refine qal ?_);rfl)
  ·rw [if_neg he]
   (repeat' first|(with_reducible first|apply qa3|apply tp_gk|apply qaa (b:=true)|apply qaa (b:=false)|apply qap|apply qan)|((conv=>arg 2;arg 1;simp (disch:=first|omega|assumption) only [qbe,qa5,qar,qav,qa4,qa6,qa9,qa8,qbc,cell_str,hx]);(with_reducible first|apply qac|apply qbg|(apply qas;omega)|(apply tot_seql_f;first|assumption|decide|exact List.cons_ne_nil _ _))))
   (refine qay ?_;(conv=>lhs;simp only [qao,qbr,shut_strD,List.take_length,List.map_nil,qa6,qa9,qa8]);rw [hsh];have:=ih (i+1) (qbi ht) (by omega);simp only [Int.natCast_add,Int.natCast_one] at this;exact this)
theorem s162 (A:St) (w:Str) (hwl:w.length≤100000000) (ws:List Str) (hl:ws.length≤100000) :
  f162 (encL 1 (ws.map .str)) (.str w) A=some (.ret (.int .i64 (idxStr w ws 0)),A):=by
 have:=s162_loop A w hwl ws hl ws 0 rfl (by omega)
 unfold f162 n162;dsimp only
 refine qbb ?_
 (repeat' first|((conv=>arg 2;arg 1;simp only [qa0,List.length_map]);(with_reducible apply qac)))
 (refine qay ?_;(conv=>lhs;simp only []);exact this)
theorem s128 (A:St) (w:Str) (hwl:w.length≤100000000) (ws:List Str) (hl:ws.length≤100000) :
  f128 (encL 1 (ws.map .str)) (.str w) A=some (.ret (.bool (decide (w ∈ ws))),A):=by
 have h1:=s162 A w hwl ws hl
 have h2:=idxStr_ge w ws 0 (by omega)
 have hcn:(encL 1 (ws.map .str)).canon=encL 1 (ws.map .str):=(encL_plain (PlainL.map (fun s=>⟨fun _=>rfl,rfl⟩) ws) 1).canon
 unfold f128 n128;dsimp only
 refine qbb ?_
 by_cases h:w ∈ ws
 ·have h3:=h2.2 h
  (repeat' first|(with_reducible first|apply qa1|apply qai|(apply tot_geq_t;omega))|((conv=>arg 2;arg 1;simp (disch:=first|omega|assumption) only [qat,r162,hcn,h1]);(with_reducible apply qac)))
  ((try conv=>arg 2;simp only [qae,qaw,qar,qad,List.take_length,qau,qab,qah]);refine qal ?_)
  simp [h,h3]
 ·have h3:¬ 0≤idxStr w ws 0:=fun e=>h (h2.1 e)
  (repeat' first|(with_reducible first|apply qa1|apply qai|(apply qb8;omega))|((conv=>arg 2;arg 1;simp (disch:=first|omega|assumption) only [qat,r162,hcn,h1]);(with_reducible apply qac)))
  ((try conv=>arg 2;simp only [qae,qaw,qar,qad,List.take_length,qau,qab,qah]);refine qal ?_)
  simp [h,h3]
end Go.Vm.Rx

/- A row that grows in a store that grows. -/
namespace Go.Vm
open Go
structure Grow (A:St) (s0:Slot) (n:Nat) (S:St) (d:D) (ds:List D):Prop where
 sto:∃ L,S=A++s0::L
 row:(∃ c,A.length<c∧d=.sl (.own c 0) n ds∧S[c]?=some (.tok ds.length))∨d=.sl .full n ds∨(d=.sl .full 0 []∧ds=[])
variable {A S:St} {s0:Slot} {n:Nat} {d:D} {ds:List D}
theorem Grow.nil (A:St) (s0:Slot) (n:Nat) (L:St):Grow A s0 n (A++s0::L) (.sl .full 0 []) []:=⟨⟨L,rfl⟩,.inr (.inr ⟨rfl,rfl⟩)⟩
theorem Grow.app (g:Grow A s0 n S d ds) (M:St) {y:D} {new:List D} {w:Nat} (hy:appendNew n y=some new) (hl:ds.length+new.length≤1000000000) (hw:w≤100000) :
  ∃ d' S',appendO n w d y (S++M)=some (d',S')∧Grow A s0 n S' d' (ds++new):=by
 obtain ⟨⟨L,rfl⟩,hr⟩:=g
 have hro:roomOk (ds.length+new.length) w=true:=by
  simp only [roomOk,decide_eq_true_eq]
  have:=Nat.mul_le_mul hl hw
  omega
 have hl':ds.length+new.length≤9223372036854775807:=by omega
 have full:∀ e,esOk .full e n ds=true→∃ d' S',appendO n w (.sl .full e ds) y (A++s0::L++M)=some (d',S')∧Grow A s0 n S' d' (ds++new):=by
  intro e he
  cases new with
  | nil =>
   refine ⟨.sl .full n ds,A++s0::L++M, ?_,⟨⟨L++M,by simp⟩,.inr (.inl (by simp))⟩⟩
   simp only [List.length_nil,Nat.add_zero] at hro hl'
   simp [appendO,appendS,hy,hro,hl',he]
  | cons x new =>
   refine ⟨.sl (.own (A++s0::L++M).length 0) n (ds++x::new),A++s0::L++M++[.tok (ds.length+(x::new).length)], ?_,⟨⟨L++M++[.tok (ds.length+(x::new).length)],by simp⟩,.inl ⟨_, ?_,rfl, ?_⟩⟩⟩
   ·simp only [List.length_cons] at hro hl'
    simp [appendO,appendS,hy,hro,hl',he]
   ·simp only [List.length_append,List.length_cons];omega
   ·rw [List.getElem?_append_right (Nat.le_refl _)];simp
 rcases hr with ⟨c,hc,rfl,ht⟩|rfl|⟨rfl,rfl⟩
 ·have hcl:c<(A++s0::L).length:=by
   rcases Nat.lt_or_ge c (A++s0::L).length with h|h
   ·exact h
   ·rw [List.getElem?_eq_none h] at ht;cases ht
  refine ⟨.sl (.own c 0) n (ds++new),((A++s0::L)++M).set c (.tok (ds.length+new.length)), ?_,⟨⟨((s0::L++M).set (c - A.length) (.tok (ds.length+new.length))).drop 1, ?_⟩,.inl ⟨c,hc,rfl, ?_⟩⟩⟩
  ·rw [append_own (s0:=0) hy (by rw [List.getElem?_append_left hcl,ht];simp) hro hl']
   simp
  ·obtain ⟨m,hm⟩:∃ m,c - A.length=m+1:=⟨c - A.length - 1,by omega⟩
   rw [hm,List.append_assoc,List.set_append_right _ _ (by omega),hm]
   simp
  ·rw [List.getElem?_set_self (by simp only [List.length_append] at hcl ⊢;omega)]
   simp
 ·exact full n (by simp [esOk])
 ·exact full 0 (by simp [esOk,Own.isOwn])
theorem Grow.app1 (g:Grow A s0 n S d ds) (M:St) {x:D} {w:Nat} (hl:ds.length+1≤1000000000) (hw:w≤100000) :
  ∃ d' S',appendO n w d (.sl .full n [x]) (S++M)=some (d',S')∧Grow A s0 n S' d' (ds++[x]):=g.app M (by simp [appendNew,esOk]) hl hw
theorem Grow.appL (g:Grow A s0 n S d ds) (M:St) {new:List D} {w:Nat} (hl:ds.length+new.length≤1000000000) (hw:w≤100000) :
  ∃ d' S',appendO n w d (encL n new) (S++M)=some (d',S')∧Grow A s0 n S' d' (ds++new):=g.app M (appendNew_encL n new) hl hw
theorem Grow.canon (g:Grow A s0 n S d ds) (h:PlainL ds):d.canon=encL n ds:=by
 rcases g.row with ⟨c,_,rfl,_⟩|rfl|⟨rfl,rfl⟩
 ·exact canon_sl h _ _
 ·exact canon_sl h _ _
 ·rfl
theorem Grow.shut (g:Grow A s0 n S d ds) (h:PlainL ds) (m:Nat):(d.shut m).canon=encL n ds:=by
 rcases g.row with ⟨c,_,rfl,_⟩|rfl|⟨rfl,rfl⟩
 ·simp only [shut_sl,h.shut];exact canon_sl h _ _
 ·simp only [shut_sl,h.shut];exact canon_sl h _ _
 ·rfl
theorem Grow.len (g:Grow A s0 n S d ds):lenSlO d=some (.int .i64 ds.length):=by
 rcases g.row with ⟨c,_,rfl,_⟩|rfl|⟨rfl,rfl⟩<;>rfl
theorem Grow.cell (g:Grow A s0 n S d ds):d.cellsT false=some [d]:=by
 rcases g.row with ⟨c,_,rfl,_⟩|rfl|⟨rfl,rfl⟩<;>rfl
theorem Grow.take (g:Grow A s0 n S d ds):S.take A.length=A:=by obtain ⟨⟨L,rfl⟩,_⟩:=g;simp
end Go.Vm

/- Several expressions as one: the program's join. -/
namespace Go.Vm.Rx
open Go Go.Proofs P
set_option maxRecDepth 10000
set_option maxHeartbeats 2000000
end Go.Vm.Rx

/- The program's reader of words: rows of alternatives. -/
namespace Go.Vm.Rx
open Go Go.Proofs P
set_option maxRecDepth 10000
set_option maxHeartbeats 400000
variable {l:List Word} (hl:l.length≤1100000) (hw:∀ w,w ∈ l→w.t.length≤100000000)
def progOut (A:St) (k:Nat) (l:List Word) (o:Nat) (x:Except (Nat×Int) (Rx×Nat)) (r:Res×St):Prop :=
 match x with
 | .ok (e,j)=>r=(.ret (encRx e),st A k (psC l (j:Nat) (o:Nat)))
 | .error (a,c)=>∃ i' o':Int,r=(.pan (.iface 164 (.agg [.int .i64 (a:Nat),.int .i64 c])),st A k (psC l i' o'))
structure ProgSpec (l:List Word) (n:Nat):Prop where
 alt:∀ A k o i x,k<A.length→i≤l.length→o≤50→pAlt l n o i=some x→Tot (progOut A k l o x) (f113 (.ref k 0) (st A k (psC l (i:Nat) (o:Nat))))
 alts:∀ A k o i i0 acc b x r0 r1 r2,k<A.length→i0<i→i≤l.length→acc≠[]→Rx.sizes acc+acc.length≤2 * (i - i0)→Rx.Nms acc→AccOk b 3 (acc.map encRx)→o≤50→pAlts l n o i acc=some x →
  Tot (progOut A k l o x) (LP Tryz.prog rxA 113 [0,0,1,1] [(st A k (psC l (i0:Nat) (o:Nat)))] (Env.mk (sp [(0,.ref k 0),(1,.ref A.length 0),(0,accD b (A.length+1) 3 (acc.map encRx))] 28) []) (st (accA b (A++[.cells [r0,r1,r2]]) (acc.map encRx)) k (psC l (i:Nat) (o:Nat))))
 seq:∀ A k o i x,k<A.length→i≤l.length→o≤50→pSeq l n o i=some x→Tot (progOut A k l o x) (f145 (.ref k 0) (st A k (psC l (i:Nat) (o:Nat))))
 seqs:∀ A k o i i0 acc b x r0 r1 r2,k<A.length→i0<i→i≤l.length→acc≠[]→Rx.sizes acc+acc.length≤2 * (i - i0)→Rx.Nms acc→AccOk b 3 (acc.map encRx)→o≤50→pSeqs l n o i acc=some x →
  Tot (progOut A k l o x) (LP Tryz.prog rxA 145 [0,1,0,1,1] [(st A k (psC l (i0:Nat) (o:Nat)))] (Env.mk (sp [(0,.ref k 0),(1,.ref A.length 0),(0,accD b (A.length+1) 3 (acc.map encRx)),(0,.str (wordAt l i))] 38) []) (st (accA b (A++[.cells [r0,r1,r2]]) (acc.map encRx)) k (psC l (i:Nat) (o:Nat))))
 rep:∀ A k o i x,k<A.length→i≤l.length→o≤50→pRep l n o i=some x→Tot (progOut A k l o x) (f171 (.ref k 0) (st A k (psC l (i:Nat) (o:Nat))))
 atom:∀ A k o i x,k<A.length→i≤l.length→o≤50→pAtom l n o i=some x→Tot (progOut A k l o x) (f195 (.ref k 0) (st A k (psC l (i:Nat) (o:Nat))))
theorem canon1 (a:Str):(D.sl .full 1 [.str a]).canon=encL 1 ([a].map .str):=rfl
include hl hw
end Go.Vm.Rx
