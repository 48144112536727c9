/- RxS14, RxS15, RxS16, RxS17 in one text. -/
import Derived.Test.YtagmpieoalkneaaGreatDoorRxS13
import Derived.Test.YtagmpieoalkneaaGreatDoorRxI6
set_option linter.all false
/- Several expressions as one: the reference's Joined. -/
namespace Go.Vm.Rx
open Go Go.Proofs P
set_option maxRecDepth 10000
set_option maxHeartbeats 2000000
theorem encRx_mk (op:Int) (nm:Str) (ks:List Rx):encRx (.mk op nm ks)=.agg [.int .i64 op,.str nm,encL 3 (ks.map encRx)]:=encRx_eq _
end Go.Vm.Rx

/- The reference's reader of words: rows of alternatives and parts. -/
namespace Go.Vm.Rx
open Go Go.Proofs P
set_option maxRecDepth 10000
set_option maxHeartbeats 2000000
section
variable (l:List Word) (i o b a x:Int)
end
def refOut (A:St) (k:Nat) (l:List Word) (o i G:Nat) (x:Except (Nat×Int) (Rx×Nat)) (r:Res×St):Prop :=
 match x with
 | .ok (e,j)=>r=(.ret (encRx e),st A k (rdC l j o 0 0))
 | .error (a,c)=>∃ (e:Rx) (i':Nat),r=(.ret (encRx e),st A k (rdC l i' o c a))∧e.size≤4 * (a - i)+G∧i'+o≤l.length+52
variable {l:List Word} (hl:l.length≤1100000) (hw:∀ w,w ∈ l→w.t.length≤100000000)
include hl
end Go.Vm.Rx

/- The reference's reader of words: parts in turn;the steps of the induction. -/
namespace Go.Vm.Rx
open Go Go.Proofs P
set_option maxRecDepth 10000
set_option maxHeartbeats 400000
variable {l:List Word} (hl:l.length≤1100000) (hw:∀ w,w ∈ l→w.t.length≤100000000)
structure RefSpec (l:List Word) (n:Nat):Prop where
 alt:∀ A k o i x,k<A.length→i≤l.length→o≤50→pAlt l n o i=some x→Tot (refOut A k l o i 3 x) (f117 (.ref k 0) (st A k (rdC l (i:Nat) (o:Nat) 0 0)))
 alts:∀ A k o i i0 acc b x r0 r1 r2 y,k<A.length→i0<i→i≤l.length→acc≠[]→Rx.sizes acc+acc.length≤2 * (i - i0)→Rx.Nms acc→AccOk b 3 (acc.map encRx)→o≤50→pAlts l n o i acc=some x →
  Tot (refOut A k l o i0 3 x) (LP Tryz.prog rxA 117 [0,0,1,1] [(st A k (rdC l (i0:Nat) (o:Nat) 0 0))] (Env.mk (sp [(0,.ref k 0),(1,.ref A.length 0),(0,accD b (A.length+1) 3 (acc.map encRx)),(21,y)] 5) []) (st (accA b (A++[.cells [r0,r1,r2]]) (acc.map encRx)) k (rdC l (i:Nat) (o:Nat) 0 0)))
 seq:∀ A k o i x,k<A.length→i≤l.length→o≤50→pSeq l n o i=some x→Tot (refOut A k l o i 2 x) (f150 (.ref k 0) (st A k (rdC l (i:Nat) (o:Nat) 0 0)))
 seqs:∀ A k o i i0 acc b x r0 r1 r2,k<A.length→i0<i→i≤l.length→acc≠[]→Rx.sizes acc+acc.length≤2 * (i - i0)→Rx.Nms acc→AccOk b 3 (acc.map encRx)→o≤50→pSeqs l n o i acc=some x →
  Tot (refOut A k l o i0 2 x) (LP Tryz.prog rxA 150 [0,0,1,1] [(st A k (rdC l (i0:Nat) (o:Nat) 0 0))] (Env.mk (sp [(0,.ref k 0),(1,.ref A.length 0),(0,accD b (A.length+1) 3 (acc.map encRx))] 19) []) (st (accA b (A++[.cells [r0,r1,r2]]) (acc.map encRx)) k (rdC l (i:Nat) (o:Nat) 0 0)))
 rep:∀ A k o i x,k<A.length→i≤l.length→o≤50→pRep l n o i=some x→Tot (refOut A k l o i 1 x) (f173 (.ref k 0) (st A k (rdC l (i:Nat) (o:Nat) 0 0)))
 atom:∀ A k o i x,k<A.length→i≤l.length→o≤50→pAtom l n o i=some x→Tot (refOut A k l o i 1 x) (f196 (.ref k 0) (st A k (rdC l (i:Nat) (o:Nat) 0 0)))
include hl
include hw
end Go.Vm.Rx

/- The reference's reader of words: parts in turn,repetitions. -/
namespace Go.Vm.Rx
open Go Go.Proofs P
set_option maxRecDepth 10000
set_option maxHeartbeats 400000
variable {l:List Word} (hl:l.length≤1100000) (hw:∀ w,w ∈ l→w.t.length≤100000000)
include hl hw
end Go.Vm.Rx
