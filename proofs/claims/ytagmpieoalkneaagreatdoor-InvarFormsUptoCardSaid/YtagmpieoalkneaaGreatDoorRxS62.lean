/- RxS61, RxS62 in one text. -/
import Derived.Test.YtagmpieoalkneaaGreatDoorRxS60
set_option linter.all false
/- Numbers and signs: what both texts say of them. -/
namespace Go.Vm.Rx
open Go Go.Proofs P
set_option maxRecDepth 10000
set_option maxHeartbeats 2000000
def signT (n:Int):Str:=if n=2 then [60,61] else if n=3 then [62,61] else [61,61]
theorem s43 (n:Int) (A:St):f43 (.int .i64 n) A=some (.ret (.str (signT n)),A):=by
 unfold f43 n43;dsimp only
 refine qbb ?_
 by_cases h2:n=2
 ·subst h2
  (repeat' first|(with_reducible first|apply qai|apply qaa (b:=true)|apply qap|(apply qbn;omega)))
  ((try conv=>arg 2;simp only [qae,shut_strD,qar,qad,List.take_length,qat,qab,qah]);refine qal ?_)
  rfl
 ·by_cases h3:n=3
  ·subst h3
   (repeat' first|(with_reducible first|apply qai|apply qaa (b:=true)|apply qaa (b:=false)|apply qap|apply qan|(apply qbn;omega)|(apply qbw;omega)))
   ((try conv=>arg 2;simp only [qae,shut_strD,qar,qad,List.take_length,qat,qab,qah]);refine qal ?_)
   rfl
  ·unfold signT
   rw [if_neg h2,if_neg h3]
   (repeat' first|(with_reducible first|apply qai|apply qaa (b:=false)|apply qan|(apply qbw;omega)))
   ((try conv=>arg 2;simp only [qae,shut_strD,qar,qad,List.take_length,qat,qab,qah]);refine qal ?_)
   rfl
theorem s90 (A:St):f90 A=some (.ret (encL 1 [.str [61,61],.str [60,61],.str [62,61]]),A):=by
 unfold f90 n90;dsimp only
 refine qbb ?_
 (repeat' first|(with_reducible first|apply qa3|apply qai)|((conv=>arg 2;arg 1;simp only [sparts_str3]);(with_reducible apply qac)))
 ((try conv=>arg 2;simp only [qae,shut_strD,shut_sl,qby,qbv,own_full,qar,qad,List.take_length,qab,qah]);refine qal ?_)
 rfl
theorem dc79p (A L:St) (o:D) (x:Int):Dcall Tryz.prog rxA (.fn (.func 79) [] []) [.ref A.length 0] (some (.iface 179 (.agg [.int .i64 x]))) (A++(.cells [o]::L)) =
  some (none,A++(.cells [.int .i64 x]::L)):=by
 rw [rd79p]
 unfold d79p nd79p;dsimp only
 have has:∀ z d,assertV z (.iface 179 d) 179 true=some (.tup [d,.bool true]):=fun _ _=>rfl
 have hk:=fun M=>Kept_tail (A:=A) (L:=.cells [o]::L) (L':=.cells [.int .i64 x]::(L++M)) (by simp) (fun i hi=>by
  match i,hi with
  | 0,_=>exact .inr ⟨_,rfl,by simp⟩
  | i+1,hi =>
   left
   simp only [List.length_cons] at hi
   simp only [List.getElem?_cons_succ]
   rw [List.getElem?_append_left (by omega)])
 have hk':=fun M=>iff_true_intro (hk M)
 have htk:∀ M,(A++(Slot.cells [.int .i64 x]::(L++M))).take (A.length+(L.length+1))=A++(Slot.cells [.int .i64 x]::L):=fun M=>by
  rw [List.take_length_add_append];simp
 have hl1:layCells true 1 0 [D.int .i64 0] (.agg [.int .i64 x])=some [.int .i64 x]:=rfl
 refine qbb ?_
 (repeat' first|(with_reducible first|apply qa3|apply tp_gk|apply qaa (b:=false)|apply qan)|((conv=>arg 2;arg 1;simp (disch:=first|omega|assumption) only [nilCheck_ref,qaf,qa4,Nat.add_zero,qbp,lay_int,List.length_append,List.length_cons,qb5,Bool.not_true,qbc,qbs,qbf,ld_sh,qa7,ldc0,ldcS,sto_sh,sto_sh0,stoc0,stocS,ext0,extS,ifc_nil,has,hk',hl1]);(with_reducible first|apply qac|apply qbg)))
 conv=>arg 2;simp (disch:=first|omega|assumption) only [List.length_append,List.length_cons,htk]
 exact qal rfl
theorem dc79n (r:D) (S:St):Dcall Tryz.prog rxA (.fn (.func 79) [] []) [r] none S=some (none,S):=by
 rw [rd79n]
 unfold d79n nd79n;dsimp only
 have hn:binO .eql 1 true (.val .nilIface) (.val .nilIface)=some (.bool true):=rfl
 refine qbb ?_
 (repeat' first|(with_reducible first|apply tp_gk|apply qaa (b:=true)|apply qap)|((conv=>arg 2;arg 1;simp (disch:=first|omega|assumption) only [qar,hn]);(with_reducible first|apply qac|apply qbg)))
 ((try conv=>arg 2;simp only [List.take_length]);refine qal ?_)
 rfl
theorem s35 (s:Str) (hs:s.length<4611686018427387904) (A:St):f35 (.str s) A=some (.ret (.int .i64 (if isCube s=true then 0 else 10)),A):=by
 have hm:=fun A=>s80 s hs A
 have hcn:(D.sl .full 1 [.str s]).canon=encL 1 [.str s]:=rfl
 unfold f35 n35;dsimp only
 refine qbb ?_
 cases h:isCube s
 ·simp only [h,Bool.false_eq_true,if_false] at hm
  (repeat' first|(with_reducible first|apply qa3|apply tp_pan|apply qai)|((conv=>arg 2;arg 1;simp (disch:=first|omega|assumption) only [bn_some,Option.map_some,Option.bind_some,qax,leaves_cons,qa4,qbp,qa7,ldc0,qb4,r80,hcn,hm,dc79p]);(with_reducible apply qac)))
  ((try conv=>arg 2;simp (disch:=first|omega|assumption) only [qae,qao,qam,qad,qaj,qab,qah,List.take_left']);refine qal ?_)
  rfl
 ·simp only [h,if_true] at hm
  (repeat' first|(with_reducible first|apply qa3|apply qa1|apply qai)|((conv=>arg 2;arg 1;simp (disch:=first|omega|assumption) only [bn_some,Option.map_some,Option.bind_some,qax,leaves_cons,qa4,qbp,lay_int,qbc,qa7,ldc0,sto_sh0,stoc0,qb4,r80,hcn,hm,dc79n]);(with_reducible apply qac)))
  ((try conv=>arg 2;simp (disch:=first|omega|assumption) only [qae,qao,qam,qad,qaj,qab,qah,List.take_left']);refine qal ?_)
  rfl
end Go.Vm.Rx

/- The program's reader of a line: its small functions. -/
namespace Go.Vm.Rx
open Go Go.Proofs P
set_option maxRecDepth 10000
set_option maxHeartbeats 2000000
section
variable (l:List Word) (i x:Int)
end
structure LineOk (l:List Word):Prop where
 ne:l≠[]
 len:l.length≤1100000
 wd:∀ w,w ∈ l→WordOk 10000000 w
theorem LineOk.short {l:List Word} (h:LineOk l):∀ w,w ∈ l→w.t.length≤100000000:=fun w hm=>by
 have:=(h.wd w hm).2.2.2.1;omega
theorem LineOk.at_ {l:List Word} (h:LineOk l) (i:Nat):(wordAt l i).length≤10000000:=by
 unfold wordAt
 cases e:l[i]? with
 | none=>simp
 | some w=>exact (h.wd w (List.mem_of_getElem? e)).2.2.2.1
end Go.Vm.Rx
