/- RxS94, RxPM, RxPN, RxS51, RxS52, RxS97, RxArgK, RxS95, RxS96, RxS98, RxCall7 in one text. -/
import Derived.Test.YtagmpieoalkneaaGreatDoorRxS93
import Derived.Test.YtagmpieoalkneaaGreatDoorVmSort
import Derived.Test.YtagmpieoalkneaaGreatDoorRxI6
import Derived.Test.YtagmpieoalkneaaGreatDoorRxS40
import Derived.Test.YtagmpieoalkneaaGreatDoorVmVs
import Derived.Test.YtagmpieoalkneaaGreatDoorRxS13
import Derived.Test.YtagmpieoalkneaaGreatDoorRxS38
import Derived.Test.YtagmpieoalkneaaGreatDoorRxTop
import Derived.Test.YtagmpieoalkneaaGreatDoorRxArgI
set_option linter.all false
/- A device's number: both texts. -/
namespace Go.Vm.Rx
open Go Go.Proofs P
set_option maxRecDepth 10000
set_option maxHeartbeats 4000000
def findI (nm:Str):List Dev→Int→Int
 | [],_=>-1
 | d::t,i=>if d.nm=nm then i else findI nm t (i+1)
theorem findI_ge (nm:Str):∀ (t:List Dev) (i:Int),0≤i→(findI nm t i=-1∧findT nm t=none)∨∃ j:Nat,findI nm t i=i+j∧findT nm t=some j∧j<t.length
 | [],i,h=>.inl ⟨rfl,rfl⟩
 | d::t,i,h=>by
  unfold findI findT
  by_cases h1:d.nm=nm
  ·rw [if_pos h1,if_pos h1]
   exact .inr ⟨0,by simp,rfl,by simp⟩
  ·rw [if_neg h1,if_neg h1]
   rcases findI_ge nm t (i+1) (by omega) with ⟨h2,h3⟩|⟨j,h2,h3,h4⟩
   ·exact .inl ⟨h2,by rw [h3];rfl⟩
   ·exact .inr ⟨j+1,by rw [h2];push_cast;omega,by rw [h3];rfl,by simp;omega⟩
def foundD (o:Option Nat):D:=match o with
 | some j=>.tup [.int .i64 (j:Nat),.bool true]
 | none=>.tup [.int .i64 0,.bool false]
theorem s102 (d:Dev) (nm:Str) (B:St) (kv:Nat) (h:B[kv]?=some (.cells [.str nm])):f102 (encDev d) (.ref kv 0) B=some (.ret (.bool (decide (d.nm=nm))),B):=by
 have hbx:boxO true (encDev d) B=some (.ref B.length 0,B++[.cells (devC d)]):=by simp [boxO,cellDev,allocD]
 have hlt:kv<B.length:=(List.getElem?_eq_some_iff.1 h).1
 have hld:loadO false 1 (.ref kv 0) (B++[.cells (devC d)])=some (.str nm):=by rw [ld_old hlt,load_get h];rfl
 unfold f102 n102;dsimp only
 refine qbb ?_
 (repeat' first|(with_reducible first|apply qa3|apply qai|(apply tot_seql;all_goals intro hsp))|((conv=>arg 2;arg 1;simp (disch:=first|omega|assumption) only [qaf,Nat.add_zero,qa7,ldc0,hbx,hld,devc0]);(with_reducible apply qac)))
 all_goals (((try conv=>arg 2;simp (disch:=first|omega|assumption) only [qae,qaw,qam,qad,qau,qab,qah,List.take_left']);refine qal ?_);simp [*])
theorem find_loop (nm:Str) (B:St) (kv:Nat) (h:B[kv]?=some (.cells [.str nm])) (l:List Dev) (hl:l.length≤100000000):∀ (t:List Dev) (i:Nat),l.drop i=t→i≤l.length →
  LP Tryz.prog rxA 101 [0,1,0,1] [B] (Env.mk (sp [(0,encL 3 (l.map encDev)),(0,.fn (.func 102) [] [.ref kv 0]),(5,.int .i64 (l.length:Nat)),(0,.int .i64 (i:Nat))] 10) []) B=some (.ret (.int .i64 (findI nm t i)),B):=by
 have hlt:kv<B.length:=(List.getElem?_eq_some_iff.1 h).1
 have hfs:(D.fn (.func 102) [] [.ref kv 0]).shut B.length=.fn (.func 102) [] [.ref kv 0]:=by simp [D.shut,D.shutL,hlt]
 intro t
 induction t with
 | nil =>
  intro i ht hi
  have h1:=qb1 ht
  refine qbb (qbh (q101_0 ..) ?_)
  unfold n101_0;dsimp only
  (repeat' first|(with_reducible first|apply qai|apply qaa (b:=false)|apply qan)|((conv=>arg 2;arg 1;simp only [Option.map_some,qax,qa6,qa9,qa8]);(with_reducible first|apply qac|(apply qa2;omega))))
  ((try conv=>arg 2;simp only [qae,qao,qar,qad,List.take_length,qaj,qab,qah]);refine qal ?_)
  rfl
 | cons x t ih =>
  intro i ht hi
  have h1:=qbz ht
  have hx:=qb6 (f:=encDev) ht 3 true .i64
  have hcn:(encDev x).canon=encDev x:=(plainDev x).canon
  have hrc:(D.ref kv 0).canon=.ref kv 0:=rfl
  have hca:applyD (Run Tryz.prog rxA) (.fn (.func 102) [] [.ref kv 0]) [encDev x] B=some (.ret (.bool (decide (x.nm=nm))),B):=by
   rw [app_fn]
   show Run Tryz.prog rxA 102 [encDev x,.ref kv 0] B=_
   rw [r102,hcn,hrc]
   exact s102 x nm B kv h
  have hih:=ih (i+1) (qbi ht) (by omega)
  refine qbb (qbh (q101_0 ..) ?_)
  unfold n101_0;dsimp only
  unfold findI
  by_cases he:x.nm=nm
  ·rw [if_pos he]
   rw [decide_eq_true he] at hca
   (repeat' first|(with_reducible first|apply qa3|apply qa1|apply qai|apply qaa (b:=true)|apply qap)|((conv=>arg 2;arg 1;simp (disch:=first|omega|assumption) only [Option.map_some,qax,qav,qa6,qa9,qa8,qbc,hx,cellDev,devcA,hca]);(with_reducible first|apply qac|(apply qas;omega))))
   ((try conv=>arg 2;simp only [qae,qao,qar,qad,List.take_length,qaj,qab,qah]);refine qal ?_)
   rfl
  ·rw [if_neg he]
   rw [decide_eq_false he] at hca
   (repeat' first|(with_reducible first|apply qa3|apply qa1|apply tp_gk|apply qaa (b:=true)|apply qaa (b:=false)|apply qap|apply qan)|((conv=>arg 2;arg 1;simp (disch:=first|omega|assumption) only [qbe,qa5,qar,qav,qa6,qa9,qa8,qbc,hx,cellDev,devcA,hca]);(with_reducible first|apply qac|apply qbg|(apply qas;omega))))
   refine qay ?_
   conv=>lhs;simp (disch:=first|omega|assumption) only [qao,qbr,List.take_length,List.map_nil,qa6,qa9,qa8,devs_shut,hfs]
   simp only [Int.natCast_add,Int.natCast_one] at hih
   exact hih
theorem s55 (t:Top) (hok:TopOk t) (nm:Str) (A:St):f55 (encTop t) (.str nm) A=some (.ret (foundD (findT nm t.ds)),A):=by
 have hdl:=hok.ds.1
 have hlo:=find_loop nm (A++[.cells (topC t),.cells [.str nm]]) (A.length+1) (by rw [get_sh];rfl) t.ds hdl t.ds 0 rfl (by omega)
 have hif:f101 (encL 3 (t.ds.map encDev)) (.fn (.func 102) [] [.ref (A.length+1) 0]) (A++[.cells (topC t),.cells [.str nm]])=some (.ret (.int .i64 (findI nm t.ds 0)),A++[.cells (topC t),.cells [.str nm]]):=by
  unfold f101 n101;dsimp only
  refine qbb ?_
  (repeat' first|((conv=>arg 2;arg 1;simp only [qa0,List.length_map]);(with_reducible apply qac)))
  (refine qay ?_;(conv=>lhs;simp only []);exact hlo)
 have hfc:∀ q,(D.fn (.func 102) [] [.ref q 0]).canon=.fn (.func 102) [] [.ref q 0]:=fun _=>rfl
 have hdc:=devs_canon t.ds 3
 have hbs:∀ S,boxO false (.str nm) S=some (.ref S.length 0,S++[.cells [.str nm]]):=fun S=>rfl
 unfold f55 n55;dsimp only
 refine qbb ?_
 rcases findI_ge nm t.ds 0 (by omega) with ⟨h1,h2⟩|⟨j,h1,h2,h3⟩
 ·rw [h1] at hif
  rw [h2]
  (repeat' first|(with_reducible first|apply qa3|apply qa1|apply qai|(apply qb8;omega))|((conv=>arg 2;arg 1;simp (disch:=first|omega|assumption) only [qaf,Nat.zero_add,List.length_append,List.length_cons,List.length_nil,qbs,qbl,qbf,qa7,ldc0,minmax_t,topbx,hbs,topc1,hdc,hfc,r101,hif]);(with_reducible apply qac)))
  ((try conv=>arg 2;simp (disch:=first|omega|assumption) only [qae,qao,qaw,shut_tup,qby,qbv,qam,qad,qaj,qau,qb7,qbu,qbm,qab,qah,List.take_left']);refine qal ?_)
  rfl
 ·rw [h1,Int.zero_add] at hif
  rw [h2]
  have e:max ((j:Nat):Int) 0=j:=by omega
  (repeat' first|(with_reducible first|apply qa3|apply qa1|apply qai|(apply tot_geq_t;omega))|((conv=>arg 2;arg 1;simp (disch:=first|omega|assumption) only [qaf,Nat.zero_add,List.length_append,List.length_cons,List.length_nil,qbs,qbl,qbf,qa7,ldc0,minmax_t,topbx,hbs,topc1,hdc,hfc,r101,hif,e]);(with_reducible apply qac)))
  ((try conv=>arg 2;simp (disch:=first|omega|assumption) only [qae,qao,qaw,shut_tup,qby,qbv,qam,qad,qaj,qau,qb7,qbu,qbm,qab,qah,List.take_left']);refine qal ?_)
  rfl
theorem s58_loop (t:Top) (hok:TopOk t) (nm:Str) (A:St):∀ (u:List Dev) (i:Nat),t.ds.drop i=u→i≤t.ds.length →
  LP Tryz.prog rxA 58 [0,1,0,1] [A] (Env.mk (sp [(1,.str nm),(0,.ref A.length 0),(3,.int .i64 (i:Nat))] 16) []) (A++[.cells (topC t)])=some (.ret (foundD ((findT nm u).map (·+i))),A):=by
 have hdl:=hok.ds.1
 have hr1:(D.ref A.length 0).shut (A.length+1)=.ref A.length 0:=shut_ref _ (by omega)
 intro u
 induction u with
 | nil =>
  intro i ht hi
  have h1:=qb1 ht
  refine qbb (qbh (q58_0 ..) ?_)
  unfold n58_0;dsimp only
  (repeat' first|(with_reducible first|apply qa3|apply qai|apply qaa (b:=false)|apply qan)|((conv=>arg 2;arg 1;simp (disch:=first|omega|assumption) only [Option.map_some,qax,qaf,Nat.zero_add,qa6,qa9,qa8,qa0,qa7,ldc0,List.length_map,topc1]);(with_reducible first|apply qac|(apply qa2;omega))))
  ((try conv=>arg 2;simp (disch:=first|omega|assumption) only [qae,qao,qaw,shut_tup,qby,qbv,qam,qad,qaj,qau,qb7,qbu,qbm,qab,qah,List.take_left']);refine qal ?_)
  rfl
 | cons x u ih =>
  intro i ht hi
  have h1:=qbz ht
  have hx:=qb6 (f:=encDev) ht 3 true .i64
  have hih:=ih (i+1) (qbi ht) (by omega)
  refine qbb (qbh (q58_0 ..) ?_)
  unfold n58_0;dsimp only
  unfold findT
  by_cases he:x.nm=nm
  ·rw [if_pos he]
   (repeat' first|(with_reducible first|apply qa3|apply qai|apply qaa (b:=true)|apply qap)|((conv=>arg 2;arg 1;simp (disch:=first|omega|assumption) only [Option.map_some,qax,qaf,qbt,qav,List.drop_zero,Nat.zero_add,qa6,qa9,qa8,qbc,qa0,qa7,ldc0,List.length_map,topc1,hx,cellDev,devc0]);(with_reducible first|apply qac|(apply qas;omega)|(apply tot_seql_t;first|assumption|with_reducible rfl))))
   ((try conv=>arg 2;simp (disch:=first|omega|assumption) only [qae,qao,qaw,shut_tup,qby,qbv,qam,qad,qaj,qau,qb7,qbu,qbm,qab,qah,List.take_left']);refine qal ?_)
   simp [foundD]
  ·rw [if_neg he]
   have e:((findT nm u).map (·+1)).map (·+i)=(findT nm u).map (·+(i+1)):=by
    rw [Option.map_map]
    congr 1
    funext q
    simp only [Function.comp_apply]
    omega
   rw [e]
   (repeat' first|(with_reducible first|apply qa3|apply tp_gk|apply qaa (b:=true)|apply qaa (b:=false)|apply qap|apply qan)|((conv=>arg 2;arg 1;simp (disch:=first|omega|assumption) only [qbe,qa5,qar,qaf,qbt,qav,List.drop_zero,Nat.zero_add,qa6,qa9,qa8,qbc,qa0,qa7,ldc0,List.length_map,topc1,hx,cellDev,devc0]);(with_reducible first|apply qac|apply qbg|(apply qas;omega)|(apply tot_seql_f;first|assumption|decide|exact List.cons_ne_nil _ _))))
   refine qay ?_
   conv=>lhs;simp (disch:=first|omega|assumption) only [qao,qbr,shut_strD,List.map_nil,Nat.zero_add,List.length_append,List.length_cons,List.length_nil,qa6,qa9,qa8,take_n1,hr1]
   simpa using hih
theorem s58 (t:Top) (hok:TopOk t) (nm:Str) (A:St):f58 (encTop t) (.str nm) A=some (.ret (foundD (findT nm t.ds)),A):=by
 have hlo:=s58_loop t hok nm A t.ds 0 rfl (by omega)
 have e:(findT nm t.ds).map (·+0)=findT nm t.ds:=by cases findT nm t.ds<;>rfl
 rw [e] at hlo
 unfold f58 n58;dsimp only
 refine qbb ?_
 (repeat' first|((conv=>arg 2;arg 1;simp (disch:=first|omega|assumption) only [topbx]);(with_reducible apply qac)))
 (refine qay ?_;(conv=>lhs;simp only []);exact hlo)
end Go.Vm.Rx

/- Names in their order: what sorting and leaving out comes to is what laying one by one comes to. -/
namespace Go.Vm.Rx
open Go Go.Proofs P
def Ris (l:List Str):Prop:=l.Pairwise (·<·)
theorem ris_ext:∀ {a b:List Str},Ris a→Ris b→(∀ x,x ∈ a↔x ∈ b)→a=b
 | [],[],_,_,_=>rfl
 | [],y::b,_,_,h=>by have:=(h y).2 (by simp);simp at this
 | x::a,[],_,_,h=>by have:=(h x).1 (by simp);simp at this
 | x::a,y::b,ha,hb,h=>by
  unfold Ris at ha hb
  rw [List.pairwise_cons] at ha hb
  have hxy:x=y:=by
   have h1:=(h x).1 (by simp)
   have h2:=(h y).2 (by simp)
   rw [List.mem_cons] at h1 h2
   rcases h1 with h1|h1
   ·exact h1
   ·rcases h2 with h2|h2
    ·exact h2.symm
    ·exact absurd (List.lt_trans (ha.1 y h2) (hb.1 x h1)) (List.lt_irrefl x)
  subst hxy
  rw [ris_ext ha.2 hb.2 fun z=>?_]
  have:=h z
  simp only [List.mem_cons] at this
  constructor
  ·intro hz
   rcases this.1 (.inr hz) with h1|h1
   ·subst h1;exact absurd (ha.1 z hz) (List.lt_irrefl z)
   ·exact h1
  ·intro hz
   rcases this.2 (.inr hz) with h1|h1
   ·subst h1;exact absurd (hb.1 z hz) (List.lt_irrefl z)
   ·exact h1
theorem less_eq:∀ (x y:Str),Op.bytesLess x y=decide (x<y)
 | [],[]=>by simp [Op.bytesLess]
 | _::_,[]=>by simp [Op.bytesLess]
 | [],_::_=>by simp [Op.bytesLess]
 | a::x,b::y=>by
  rw [Op.bytesLess,less_eq x y]
  simp only [List.cons_lt_cons_iff]
  by_cases h1:a<b<;>by_cases h2:a=b<;>by_cases h3:x<y<;>simp [h1,h2,h3]
theorem lss_t {s x:Str} (h:s<x):binO .lss 3 false (.str s) (.str x)=some (.bool true):=by
 have:binO .lss 3 false (.str s) (.str x)=some (.bool (Op.bytesLess s x)):=rfl
 rw [this,less_eq,decide_eq_true h]
theorem lss_f {s x:Str} (h:¬ s<x):binO .lss 3 false (.str s) (.str x)=some (.bool false):=by
 have:binO .lss 3 false (.str s) (.str x)=some (.bool (Op.bytesLess s x)):=rfl
 rw [this,less_eq,decide_eq_false h]
def putN (s:Str):List Str→List Str
 | []=>[s]
 | x::l=>if x=s then x::l else if s<x then s::x::l else x::putN s l
theorem mem_putN (s:Str):∀ (l:List Str) (z:Str),z ∈ putN s l↔z=s∨z ∈ l
 | [],z=>by simp [putN]
 | x::l,z=>by
  unfold putN
  split
  ·rename_i h;subst h
   simp
  ·split
   ·simp
   ·simp only [List.mem_cons,mem_putN s l z]
    constructor
    ·rintro (h|h|h)
     ·exact .inr (.inl h)
     ·exact .inl h
     ·exact .inr (.inr h)
    ·rintro (h|h|h)
     ·exact .inr (.inl h)
     ·exact .inl h
     ·exact .inr (.inr h)
theorem ris_putN (s:Str):∀ {l:List Str},Ris l→Ris (putN s l)
 | [],_=>by simp [putN,Ris]
 | x::l,h=>by
  unfold Ris at h
  have h0:=h
  rw [List.pairwise_cons] at h
  unfold putN
  split
  ·exact h0
  ·rename_i hne
   split
   ·rename_i hlt
    unfold Ris
    rw [List.pairwise_cons]
    refine ⟨fun z hz=>?_,h0⟩
    rcases List.mem_cons.1 hz with rfl|hz
    ·exact hlt
    ·exact List.lt_trans hlt (h.1 z hz)
   ·rename_i hlt
    unfold Ris
    rw [List.pairwise_cons]
    refine ⟨fun z hz=>?_,ris_putN s h.2⟩
    rcases (mem_putN s l z).1 hz with rfl|hz
    ·rcases List.le_iff_lt_or_eq.1 (List.not_lt.1 hlt) with h3|h3
     ·exact h3
     ·exact absurd h3 hne
    ·exact h.1 z hz
theorem le_lt {a b c:Str} (h:a≤b) (g:b<c):a<c:=by
 rcases List.le_iff_lt_or_eq.1 h with h|h
 ·exact List.lt_trans h g
 ·subst h;exact g
theorem cmp_mem (d:Array Str) (z:Str):∀ (m:Nat),z ∈ Lib.compactUpTo d m↔∃ j,j<m∧d[j]! = z
 | 0=>by simp [Lib.compactUpTo]
 | m+1=>by
  have ih:=cmp_mem d z m
  rw [Lib.compactUpTo_succ,List.mem_append,ih]
  constructor
  ·rintro (⟨j,h1,h2⟩|h)
   ·exact ⟨j,by omega,h2⟩
   ·split at h
    ·exact ⟨m,by omega,(List.mem_singleton.1 h).symm⟩
    ·cases h
  ·rintro ⟨j,h1,h2⟩
   by_cases e:j=m
   ·subst e
    by_cases hk:Lib.keeps d j=true
    ·rw [if_pos hk];exact .inr (by simp [h2])
    ·left
     unfold Lib.keeps at hk
     simp only [decide_eq_true_eq,not_or,Classical.not_not] at hk
     exact ⟨j - 1,by omega,hk.2 ▸ h2⟩
   ·exact .inl ⟨j,by omega,h2⟩
theorem cmp_ris (d:Array Str) (h:∀ i j,i≤j→j<d.size→d[i]! ≤ d[j]!):∀ (m:Nat),m≤d.size→Ris (Lib.compactUpTo d m)
 | 0,_=>by simp [Lib.compactUpTo,Ris]
 | m+1,hm=>by
  have ih:=cmp_ris d h m (by omega)
  rw [Lib.compactUpTo_succ]
  unfold Ris at *
  rw [List.pairwise_append]
  refine ⟨ih,by split<;>simp,fun x hx y hy=>?_⟩
  split at hy
  case isFalse=>cases hy
  rename_i hk
  have:=List.mem_singleton.1 hy
  subst this
  obtain ⟨j,h1,rfl⟩:=(cmp_mem d x m).1 hx
  unfold Lib.keeps at hk
  simp only [decide_eq_true_eq] at hk
  rcases hk with hk|hk
  ·omega
  ·refine le_lt (h j (m - 1) (by omega) (by omega)) ?_
   rcases List.le_iff_lt_or_eq.1 (h (m - 1) m (by omega) (by omega)) with h3|h3
   ·exact h3
   ·exact absurd h3.symm hk
theorem compact_mem (l:List Str) (z:Str):z ∈ Lib.compact l↔z ∈ l:=by
 unfold Lib.compact
 rw [cmp_mem,List.mem_iff_getElem]
 constructor
 ·rintro ⟨j,h1,h2⟩
  exact ⟨j,h1,by rw [← h2];simp [h1]⟩
 ·rintro ⟨j,h1,h2⟩
  exact ⟨j,h1,by rw [← h2];simp [h1]⟩
theorem compact_ris (l:List Str) (h:l.Pairwise (·≤·)):Ris (Lib.compact l):=by
 refine cmp_ris l.toArray (fun i j hij hj=>?_) l.length (Nat.le_refl _)
 have hj':j<l.length:=by simpa using hj
 rcases Nat.eq_or_lt_of_le hij with rfl|hlt
 ·exact List.le_refl _
 ·have:=List.pairwise_iff_getElem.1 h i j (by omega) hj' hlt
  simpa [hj',Nat.lt_trans hlt hj'] using this
theorem sorted_le (l:List Str):(sorted l).Pairwise (·≤·):=by
 have:=List.pairwise_mergeSort (le:=fun x y:Str=>decide (x≤y)) (fun a b c h1 h2=>by
  simp only [decide_eq_true_eq] at *;exact List.le_trans h1 h2) (fun a b=>by
  simp only [Bool.or_eq_true,decide_eq_true_eq];exact List.le_total a b) l
 exact this.imp fun h=>by simpa using h
theorem sorted_mem (l:List Str) (z:Str):z ∈ sorted l↔z ∈ l:=List.mem_mergeSort
def names (l:List Str):List Str:=Lib.compact (sorted l)
theorem names_ris (l:List Str):Ris (names l):=compact_ris _ (sorted_le l)
theorem names_mem (l:List Str) (z:Str):z ∈ names l↔z ∈ l:=by unfold names;rw [compact_mem,sorted_mem]
end Go.Vm.Rx

/- Names of an expression. -/
namespace Go.Vm.Rx
open Go Go.Proofs P
mutual
def pn (op:Int):Rx→List Str
 | .mk o nm ks=>names ((if o=op then [nm] else [])++pnL op ks)
def pnL (op:Int):List Rx→List Str
 | []=>[]
 | k::ks=>pn op k++pnL op ks
end
mutual
def rn (op:Int):Rx→List Str→List Str
 | .mk o nm ks,l=>rnL op ks (if o=op then putN nm l else l)
def rnL (op:Int):List Rx→List Str→List Str
 | [],l=>l
 | k::ks,l=>rnL op ks (rn op k l)
end
mutual
def occ (op:Int) (z:Str):Rx→Prop
 | .mk o nm ks=>(o=op∧z=nm)∨occL op z ks
def occL (op:Int) (z:Str):List Rx→Prop
 | []=>False
 | k::ks=>occ op z k∨occL op z ks
end
mutual
theorem pn_mem (op:Int) (z:Str):∀ (r:Rx),z ∈ pn op r↔occ op z r
 | .mk o nm ks=>by
  unfold pn occ
  rw [names_mem,List.mem_append,pnL_mem op z ks]
  by_cases h:o=op
  ·simp [h]
  ·simp [h]
theorem pnL_mem (op:Int) (z:Str):∀ (ks:List Rx),z ∈ pnL op ks↔occL op z ks
 | []=>by unfold pnL occL;simp
 | k::ks=>by
  unfold pnL occL
  rw [List.mem_append,pn_mem op z k,pnL_mem op z ks]
end
mutual
theorem rn_mem (op:Int) (z:Str):∀ (r:Rx) (l:List Str),z ∈ rn op r l↔occ op z r∨z ∈ l
 | .mk o nm ks,l=>by
  unfold rn occ
  rw [rnL_mem op z ks]
  by_cases h:o=op
  ·simp only [h,if_true,true_and,mem_putN]
   constructor
   ·rintro (h|h|h)
    ·exact .inl (.inr h)
    ·exact .inl (.inl h)
    ·exact .inr h
   ·rintro ((h|h)|h)
    ·exact .inr (.inl h)
    ·exact .inl h
    ·exact .inr (.inr h)
  ·simp [h]
theorem rnL_mem (op:Int) (z:Str):∀ (ks:List Rx) (l:List Str),z ∈ rnL op ks l↔occL op z ks∨z ∈ l
 | [],l=>by unfold rnL occL;simp
 | k::ks,l=>by
  unfold rnL occL
  rw [rnL_mem op z ks,rn_mem op z k]
  constructor
  ·rintro (h|h|h)
   ·exact .inl (.inr h)
   ·exact .inl (.inl h)
   ·exact .inr h
  ·rintro ((h|h)|h)
   ·exact .inr (.inl h)
   ·exact .inl h
   ·exact .inr (.inr h)
end
mutual
theorem rn_ris (op:Int):∀ (r:Rx) {l:List Str},Ris l→Ris (rn op r l)
 | .mk o nm ks,l,h=>by
  unfold rn
  refine rnL_ris op ks ?_
  split
  ·exact ris_putN nm h
  ·exact h
theorem rnL_ris (op:Int):∀ (ks:List Rx) {l:List Str},Ris l→Ris (rnL op ks l)
 | [],l,h=>by unfold rnL;exact h
 | k::ks,l,h=>by unfold rnL;exact rnL_ris op ks (rn_ris op k h)
end
theorem pn_ris (op:Int) (r:Rx):Ris (pn op r):=by
 obtain ⟨o,nm,ks⟩:=r
 unfold pn
 exact names_ris _
theorem ris_nil:Ris []:=List.Pairwise.nil
theorem pn_rn (op:Int) (r:Rx):pn op r=rn op r []:=ris_ext (pn_ris op r) (rn_ris op r ris_nil) fun z=>by
 rw [pn_mem,rn_mem];simp
theorem names_len (l:List Str):(names l).length≤l.length:=by
 unfold names
 have:=Lib.compact_length_le (sorted l)
 rw [sorted_length] at this
 exact this
mutual
theorem pn_len (op:Int):∀ (r:Rx),(pn op r).length≤r.size
 | .mk o nm ks=>by
  have h1:=pnL_len op ks
  have h2:=names_len ((if o=op then [nm] else [])++pnL op ks)
  have h3:=Rx.size_eq (.mk o nm ks)
  unfold pn
  rw [List.length_append] at h2
  have h4:(if o=op then [nm] else []).length≤1:=by split<;>simp
  simp only [Rx.ks] at h3
  omega
theorem pnL_len (op:Int):∀ (ks:List Rx),(pnL op ks).length≤Rx.sizes ks
 | []=>by simp [pnL]
 | k::ks=>by
  have h1:=pn_len op k
  have h2:=pnL_len op ks
  simp only [pnL,List.length_append,Rx.sizes]
  omega
end
theorem putN_len (s:Str):∀ (l:List Str),(putN s l).length≤l.length+1
 | []=>by simp [putN]
 | x::l=>by
  have:=putN_len s l
  unfold putN
  split
  ·simp
  ·split
   ·simp
   ·simp only [List.length_cons];omega
mutual
theorem rn_len (op:Int):∀ (r:Rx) (l:List Str),(rn op r l).length≤r.size+l.length
 | .mk o nm ks,l=>by
  have h1:=rnL_len op ks (if o=op then putN nm l else l)
  have h2:=putN_len nm l
  have h3:=Rx.size_eq (.mk o nm ks)
  simp only [Rx.ks] at h3
  unfold rn
  have h4:(if o=op then putN nm l else l).length≤l.length+1:=by split<;>omega
  omega
theorem rnL_len (op:Int):∀ (ks:List Rx) (l:List Str),(rnL op ks l).length≤Rx.sizes ks+l.length
 | [],l=>by simp [rnL]
 | k::ks,l=>by
  have h1:=rn_len op k l
  have h2:=rnL_len op ks (rn op k l)
  simp only [rnL,Rx.sizes]
  omega
end
end Go.Vm.Rx

/- Names: the program's text. -/
namespace Go.Vm.Rx
open Go Go.Proofs P
set_option maxRecDepth 10000
set_option maxHeartbeats 4000000
theorem sort_run {S:St} {k:Nat} {xs:List Str} (h:TRow S k xs) (hb:xs.length≤1100000):Run Tryz.prog rxA 129 [.vsl k 0 1 xs.length] S=some (.ret (.tup []),S.set k (.cells ((sorted xs).map .str))):=by
 rw [Run_ext _ _ (by decide) rfl]
 exact onStrs_run h rfl (by omega)
theorem compact_run {S:St} {k:Nat} {xs:List Str} (h:TRow S k xs) (hb:xs.length≤1100000):Run Tryz.prog rxA 130 [.vsl k 0 1 xs.length] S=some (.ret (.vsl k 0 1 (Lib.compact xs).length),S.set k (.cells ((Lib.compact xs++List.replicate (xs.length - (Lib.compact xs).length) []).map .str))):=by
 rw [Run_ext _ _ (by decide) rfl]
 exact onStrs_run h rfl (by omega)
theorem trow_set {S:St} {k:Nat} {xs:List Str} (h:TRow S k xs) (ys:List Str):TRow (S.set k (.cells (ys.map .str))) k ys:=by
 unfold TRow
 rw [List.getElem?_set_self (getE_lt h)]
def NSpec (op:Int) (r:P.Rx):Prop:=∀ A,f99 (encRx r) (.int .i64 op) A=some (.ret (encL 1 ((pn op r).map .str)),A)
theorem s99_loop (op:Int) (r:P.Rx) (hr:r.Ok) (hk:∀ k,k ∈ r.ks→NSpec op k) (A:St):∀ (t:List P.Rx) (i:Nat) (S:St) (v:Nat) (acc:List Str),r.ks.drop i=t→KeepS A S→A.length≤v→TRow S v acc→acc.length+Rx.sizes t≤100000 →
  LP Tryz.prog rxA 99 [0,1,0,1,1,1] [A] (Env.mk (sp [(1,.int .i64 op),(3,.vsl v 0 1 acc.length),(12,encL 3 (r.ks.map encRx)),(0,.int .i64 (r.ks.length:Nat)),(0,.int .i64 (i:Nat))] 13) []) S=some (.ret (encL 1 ((names (acc++pnL op t)).map .str)),A):=by
 intro t
 have hl:=hr.len
 induction t with
 | nil =>
  intro i S v acc ht hkp hv hrow hb
  have h1:=qb1 ht
  have hso:=sort_run hrow (by omega)
  have hrow2:=trow_set hrow (sorted acc)
  have hco:=compact_run hrow2 (by rw [sorted_length];omega)
  rw [sorted_length] at hco
  have hrow3:=trow_set hrow2 (Lib.compact (sorted acc)++List.replicate (acc.length - (Lib.compact (sorted acc)).length) [])
  have hlv:=leave_frz (m:=(Lib.compact (sorted acc)).length) (keeps_set (keeps_set hkp hv) hv) hrow3 hv (by simp)
  have e:(Lib.compact (sorted acc)++List.replicate (acc.length - (Lib.compact (sorted acc)).length) []).take (Lib.compact (sorted acc)).length=names acc:=by
   rw [List.take_left']
   ·rfl
   ·rfl
  rw [e] at hlv
  have e2:acc++pnL op []=acc:=by simp [pnL]
  rw [e2]
  refine qbb (qbh (q99_0 ..) ?_)
  unfold n99_0;dsimp only
  (repeat' first|(with_reducible first|apply qa1|apply qai|apply qaa (b:=false)|apply qan)|((conv=>arg 2;arg 1;simp (disch:=first|omega|assumption) only [Option.map_some,qax,qa6,qa9,qa8,hso,hco]);(with_reducible first|apply qac|(apply qa2;omega))))
  refine ⟨_, ?_,rfl⟩
  conv=>lhs;simp (disch:=first|omega|assumption) only [hlv]
 | cons k t ih =>
  intro i S v acc ht hkp hv hrow hb
  have h1:=qbz ht
  have hx:=qb6 (f:=encRx) ht 3 true .i64
  have hcall:=hk k (drop_mem ht) (S++[.cells [.int .i64 k.op,.str k.nm,encL 3 (k.ks.map encRx)]])
  have hlen:=pn_len op k
  simp only [Rx.sizes] at hb
  have hvl:=getE_lt hrow
  have hkp2:=hkp.trans (KeepS.app S [.cells [.int .i64 k.op,.str k.nm,encL 3 (k.ks.map encRx)]])
  have hrow2:TRow (S++[.cells [.int .i64 k.op,.str k.nm,encL 3 (k.ks.map encRx)]]) v acc:=by
   unfold TRow
   rw [List.getElem?_append_left hvl];exact hrow
  obtain ⟨v',S',hap,hrow3,hl3,ho3,hv3⟩:=app_v hrow2 (ys:=pn op k) (appendNew_encL 1 ((pn op k).map .str)) (by omega)
  have hkp3:=keeps_app hkp2 hv hl3 ho3
  have hv':A.length≤v':=by
   have:=hkp2.len
   rcases hv3 with h|h<;>omega
  have:=ih (i+1) S' v' (acc++pn op k) (qbi ht) hkp3 hv' hrow3 (by rw [List.length_append];omega)
  rw [Int.natCast_add,Int.natCast_one] at this
  have e:acc++pnL op (k::t)=acc++pn op k++pnL op t:=by simp [pnL]
  rw [e]
  refine qbb (qbh (q99_0 ..) ?_)
  unfold n99_0;dsimp only
  (repeat' first|(with_reducible first|apply qa3|apply qa1|apply qaa (b:=true)|apply qap)|((conv=>arg 2;arg 1;simp (disch:=first|omega|assumption) only [qbe,qa5,qav,qbp,ofA3,List.length_append,qa6,qa9,qa8,qbc,qaj,qa7,ldc0,sto_sh0,stoc0,hx,rx_cell,rx_fold,qb2,rx_lay,r99,hcall,hap,tok_vv]);(with_reducible first|apply qac|(apply qas;omega))))
  (refine qay ?_;(conv=>lhs;simp only [qa6,qa9,qa8]);rw [List.length_append] at this;exact this)
theorem s99 (op:Int):∀ (r:P.Rx) (hr:r.Ok) (hs:r.size≤1000),NSpec op r:=by
 refine Rx.ind fun r ih hr hs A=>?_
 have hl:=hr.len
 have hkd:∀ k,k ∈ r.ks→NSpec op k:=fun k hk=>ih k hk (hr.kid hk) (by have:=kid_size hk;omega)
 have hsz:=Rx.size_eq r
 have htk:=tok_v0 (A++[.cells [.int .i64 r.op,.str r.nm,encL 3 (r.ks.map encRx)]])
 have hk0:=KeepS.app A [Slot.cells [.int .i64 r.op,.str r.nm,encL 3 (r.ks.map encRx)],.cells []]
 have hrow:TRow (A++[Slot.cells [.int .i64 r.op,.str r.nm,encL 3 (r.ks.map encRx)],.cells []]) (A.length+1) []:=by
  unfold TRow
  rw [List.getElem?_append_right (by omega)]
  simp
 have hpn:pn op r=names ((if r.op=op then [r.nm] else [])++pnL op r.ks):=by
  obtain ⟨o,nm,ks⟩:=r
  unfold pn
  rfl
 unfold f99 n99;dsimp only
 rw [hpn]
 by_cases ho:r.op=op
 ·rw [if_pos ho]
  obtain ⟨v',S',hap,hrow3,hl3,ho3,hv3⟩:=app_v hrow (ys:=[r.nm]) (y:=.sl .full 1 [.str r.nm]) rfl (by simp)
  have hkp3:=keeps_app hk0 (by omega) hl3 ho3
  have hv':A.length≤v':=by
   have:=hk0.len
   rcases hv3 with h|h<;>omega
  have hbx:S'[A.length]?=some (.cells [.int .i64 r.op,.str r.nm,encL 3 (r.ks.map encRx)]):=by
   rw [ho3 A.length (by omega) (by simp)]
   simp
  have hld:=fun gg m off=>load_get hbx (gg:=gg) (m:=m) (off:=off)
  have hlo:=s99_loop op r hr hkd A r.ks 0 S' v' [r.nm] rfl hkp3 hv' hrow3 (by simp;omega)
  rw [Int.natCast_zero] at hlo
  simp only [List.nil_append,List.length_cons,List.length_nil,Nat.zero_add] at hap hlo
  refine qbb ?_
  (repeat' first|(with_reducible first|(apply tot_jn;intro hkk hke)|(apply tot_jk;· assumption)|apply qa3|apply qaa (b:=true)|apply qap|(apply qbn;omega))|((conv=>arg 2;arg 1;simp (disch:=first|omega|assumption) only [qaf,qa4,qb3,Nat.zero_add,Nat.add_zero,List.length_append,List.length_cons,List.length_nil,qa0,qbs,qbl,qbf,qa7,ldc0,qb4,List.length_map,eg_0,eg_S,rx_box,htk,hap,hld,tok_vv]);(with_reducible apply qac)))
  (refine qay ?_;(conv=>lhs;simp only [eg_0,eg_S]);exact hlo)
 ·rw [if_neg ho]
  have hlo:=s99_loop op r hr hkd A r.ks 0 _ (A.length+1) [] rfl hk0 (by omega) hrow (by simp;omega)
  rw [Int.natCast_zero] at hlo
  refine qbb ?_
  (repeat' first|(with_reducible first|(apply tot_jn;intro hkk hke)|(apply tot_jk;· assumption)|apply qa3|apply qaa (b:=false)|apply qan|(apply qbw;omega))|((conv=>arg 2;arg 1;simp (disch:=first|omega|assumption) only [qaf,qa4,qb3,Nat.zero_add,Nat.add_zero,List.length_append,List.length_cons,List.length_nil,qa0,qbs,qbl,qbf,qa7,ldc0,List.length_map,eg_0,eg_S,rx_box,htk]);(with_reducible apply qac)))
  (refine qay ?_;(conv=>lhs;simp only [eg_0,eg_S]);exact hlo)
end Go.Vm.Rx

/- Names: the program's both rows. -/
namespace Go.Vm.Rx
open Go Go.Proofs P
set_option maxRecDepth 10000
set_option maxHeartbeats 4000000
def nmR (op:Int) (r:P.Rx):D:=encL 1 ((if r.check=0 then pn op r else []).map .str)
theorem s53 (r:P.Rx) (hr:r.Ok) (A:St):f53 (encRx r) A=some (.ret (.tup [nmR 1 r,nmR 2 r,.int .i64 r.check]),A):=by
 have hck:=fun A=>s37 r hr A
 have hS:=fun l=>strs_canon l 1
 have hSh:=fun l m=>strs_shut l 1 m
 unfold f53 n53 nmR;dsimp only
 refine qbb ?_
 by_cases h:r.check=0
 ·rw [if_pos h,if_pos h,h]
  rw [h] at hck
  obtain ⟨h1,h2,h3⟩:=check_0 h
  have hn1:=fun A=>s99 1 r hr h1 A
  have hn2:=fun A=>s99 2 r hr h1 A
  (repeat' first|(with_reducible first|apply qa3|apply qa1|apply tp_gs0|apply tp_gs1|apply qai|apply qaa (b:=false)|apply qan|(apply tot_neq_t;omega))|((conv=>arg 2;arg 1;simp (disch:=first|omega|assumption) only [ofA3,sameAd_refl,qaj,qa7,ldc0,rx_box,rx_fold,qb2,r37,hck,r99,hn1,hn2]);(with_reducible first|apply qac|apply qbg)))
  ((try conv=>arg 2;simp (disch:=first|omega|assumption) only [qae,qao,shut_tup,qby,qbv,qam,qad,qaj,qb7,qbu,qbm,qab,qah,List.take_left',hS,hSh]);refine qal ?_)
  rfl
 ·rw [if_neg h,if_neg h]
  (repeat' first|(with_reducible first|apply qa3|apply qa1|apply qai|apply qaa (b:=true)|apply qap|(apply tot_neq_f;omega))|((conv=>arg 2;arg 1;simp (disch:=first|omega|assumption) only [ofA3,qa7,ldc0,rx_box,rx_fold,qb2,r37,hck]);(with_reducible apply qac)))
  ((try conv=>arg 2;simp (disch:=first|omega|assumption) only [qae,qao,shut_sl,shut_tup,qby,qbv,own_full,qam,qad,qaj,qb7,qbu,qbm,canon_nil,qab,qah,List.take_left']);refine qal ?_)
  rfl
end Go.Vm.Rx

/- Which invariants a topology may have: the program's text. -/
namespace Go.Vm.Rx
open Go Go.Proofs P
set_option maxRecDepth 10000
set_option maxHeartbeats 4000000
def allF (t:Top) (l:List Str):Bool:=l.all fun n=>(findT n t.ds).isSome
def chkI (v:Iv) (t:Top):Int:=if topE t=0 then (if ivForm v=0 then (if (v.pk.length:Int)=t.w then (if allF t (v.ing++pn 1 v.path)=true then 0 else 112) else 11) else ivForm v) else topE t
theorem canon_slE (o:Own) (n:Nat) (ds:List D):(D.sl o n ds).canon=encL n (D.canonL ds):=by cases ds<;>rfl
theorem found_1 (o:Option Nat):extractD (foundD o) 1=some (.bool o.isSome):=by cases o<;>rfl
theorem found_0 (o:Option Nat):extractD (foundD o) 0=some (.int .i64 ((o.getD 0:Nat):Int)):=by cases o<;>rfl
structure RowK (n:Nat) (d:D) (l:List Str):Prop where
 len:lenSlO d=some (.int .i64 (l.length:Nat))
 idx:∀ {i:Nat} {x:Str} {t:List Str},l.drop i=x::t→indexAddrO 1 false d (.int .i64 (i:Int))=some (.peek [.str x])
 shut:∀ m,n≤m→d.shut m=d
theorem sl_idx (o:Own) (l:List Str) {i:Nat} {x:Str} {t:List Str} (ht:l.drop i=x::t):indexAddrO 1 false (.sl o 1 (l.map .str)) (.int .i64 (i:Int))=some (.peek [.str x]):=by
 have h1:=qbz ht
 have:=List.drop_eq_getElem_cons h1
 rw [ht] at this
 have he:=(List.cons.inj this).1
 simp only [indexAddrO,D.int?,Option.bind_some,Int.toNat_natCast,esOk,beq_self_eq_true,Bool.true_or,and_true]
 rw [if_pos (by omega),List.getElem?_map,List.getElem?_eq_getElem h1,← he]
 rfl
theorem acc_rowK {b:Option Nat} {c:Nat} {l:List Str} (h:AccOk b 1 (l.map .str)):RowK (c+1) (accD b c 1 (l.map .str)) l:=by
 have hp:∀ m,D.shutL m (l.map .str)=l.map .str:=(plainStr l).shut
 cases b with
 | none =>
  refine ⟨by simp [accD,lenSlO],fun ht=>sl_idx _ _ ht,fun m hm=>?_⟩
  have:c<m:=by omega
  simp [accD,D.shut,Own.shut,hp,this]
 | some e =>
  have hsh:∀ m,(accD (some e) c 1 (l.map .str)).shut m=accD (some e) c 1 (l.map .str):=fun m=>by simp [accD,D.shut,Own.shut,hp]
  refine ⟨by simp [accD,lenSlO],fun {i x t} ht=>?_,fun m _=>hsh m⟩
  rcases h with h|h|⟨_,h⟩
  ·cases h
  ·cases h;exact sl_idx _ _ ht
  ·have h1:=qbz ht
   have:l=[]:=by cases l with
    | nil=>rfl
    | cons a b=>simp at h
   subst this
   simp at h1
section
variable (v:Iv) (hv:IvWell v) (t:Top) (hok:TopOk t) (A:St)
include hv hok
theorem s21_loop (S:St) (kt:Nat) (hS:S[kt]?=some (.cells (topC t))) (hAS:KeepS A S) (d:D) (l:List Str) (hd:RowK S.length d l) (hl:l.length≤100000000):∀ (u:List Str) (i:Nat),l.drop i=u→i≤l.length →
  LP Tryz.prog rxA 21 [0,1,0,1,1,1,1,1] [A] (Env.mk (sp [(3,.ref kt 0),(37,d),(0,.int .i64 (l.length:Nat)),(0,.int .i64 (i:Nat))] 12) []) S=some (.ret (.int .i64 (if allF t u=true then 0 else 112)),A):=by
 have hld:∀ g m off,loadO g m (.ref kt off) S=ofCells g (topC t) off m:=fun g m off=>load_get hS
 have hkl:=getE_lt hS
 have hrs:(D.ref kt 0).shut S.length=.ref kt 0:=shut_ref _ hkl
 have hds:=hd.shut S.length (Nat.le_refl _)
 have hct:(encTop t).canon=encTop t:=(plainTop t).canon
 have hK:Kept A S↔True:=iff_true_intro ⟨hAS.len,fun j hj=>.inl (hAS.old j hj)⟩
 have hT:=keeps_take hAS
 intro u
 induction u with
 | nil =>
  intro i ht hi
  have h1:=qb1 ht
  refine qbb (qbh (q21_0 ..) ?_)
  unfold n21_0;dsimp only
  (repeat' first|(with_reducible first|apply qai|apply qaa (b:=false)|apply qan)|((conv=>arg 2;arg 1;simp only [Option.map_some,qax,qa6,qa9,qa8]);(with_reducible first|apply qac|(apply qa2;omega))))
  ((try conv=>arg 2;simp (disch:=first|omega|assumption) only [qae,qao,qad,qaj,qab,qah,hK,hT]);refine qal ?_)
  rfl
 | cons x u ih =>
  intro i ht hi
  have h1:=qbz ht
  have hx:=hd.idx ht
  have hf:=fun A=>s55 t hok x A
  have hih:=ih (i+1) (qbi ht) (by omega)
  rw [Int.natCast_add,Int.natCast_one] at hih
  have e:allF t (x::u)=((findT x t.ds).isSome && allF t u):=rfl
  rw [e]
  refine qbb (qbh (q21_0 ..) ?_)
  unfold n21_0;dsimp only
  cases hq:(findT x t.ds).isSome
  ·have f1:=found_1 (findT x t.ds);rw [hq] at f1
   (repeat' first|(with_reducible first|apply qa3|apply qa1|apply qai|apply qaa (b:=true)|apply qap)|((conv=>arg 2;arg 1;simp (disch:=first|omega|assumption) only [Option.map_some,qax,qav,qa4,qb5,Bool.not_false,qa6,qa9,qa8,qat,hx,hld,topcA,hct,r55,hf,found_0,f1]);(with_reducible first|apply qac|(apply qas;omega))))
   ((try conv=>arg 2;simp (disch:=first|omega|assumption) only [qae,qao,qad,qaj,qab,qah,hK,hT]);refine qal ?_)
   simp
  ·have f1:=found_1 (findT x t.ds);rw [hq] at f1
   rw [Bool.true_and]
   (repeat' first|(with_reducible first|apply qa3|apply qa1|apply tp_gk|apply qaa (b:=true)|apply qaa (b:=false)|apply qap|apply qan)|((conv=>arg 2;arg 1;simp (disch:=first|omega|assumption) only [qbe,qa5,qar,qav,qa4,qb5,Bool.not_true,qa6,qa9,qa8,qat,hx,hld,topcA,hct,r55,hf,found_0,f1]);(with_reducible first|apply qac|apply qbg|(apply qas;omega))))
   refine qay ?_
   conv=>lhs;simp (disch:=first|omega|assumption) only [qao,qbr,List.take_length,List.map_nil,qa6,qa9,qa8,hrs,hds]
   exact hih
theorem s21:f21 (encIv v) (encTop t) A=some (.ret (.int .i64 (chkI v t)),A):=by
 have hc1:=fun A=>s52 t hok A
 have hf:=fun A=>s14 v hv A
 have hct:(encTop t).canon=encTop t:=(plainTop t).canon
 have hcv:(encIv v).canon=encIv v:=(plainIv v).canon
 have hn:=fun A=>s53 v.path hv.ok.1 A
 unfold f21 n21 chkI;dsimp only
 refine qbb ?_
 by_cases g1:topE t=0
 ·rw [if_pos g1]
  rw [g1] at hc1
  by_cases g2:ivForm v=0
  ·rw [if_pos g2]
   rw [g2] at hf
   by_cases g3:(v.pk.length:Int)=t.w
   ·rw [if_pos g3]
    obtain ⟨gv,gr⟩:=ivGood hv g2
    have hpc:=gv.path
    obtain ⟨p1,p2,p3⟩:=check_0 hpc
    have hpl:=pn_len 1 v.path
    have hnm:nmR 1 v.path=encL 1 ((pn 1 v.path).map .str):=by unfold nmR;rw [if_pos hpc]
    rw [hnm] at hn
    have hgl:=gv.len
    obtain ⟨b',hb',hcat⟩:=s54 (A++[.cells (ivC v),.cells (topC t)]) [v.ing,pn 1 v.path] (by simp;omega) (by simp)
    simp only [List.flatten_cons,List.flatten_nil,List.append_nil] at hb' hcat
    have hcat':Run Tryz.prog rxA 54 [.sl .full 1 [encL 1 (v.ing.map .str),encL 1 ((pn 1 v.path).map .str)]] (A++[.cells (ivC v),.cells (topC t)])=some (.ret (accD b' (A++[.cells (ivC v),.cells (topC t)]:St).length 1 ((v.ing++pn 1 v.path).map .str)),accA b' (A++[.cells (ivC v),.cells (topC t)]) ((v.ing++pn 1 v.path).map .str)):=by
     rw [r54,← hcat]
     congr 1
     simp only [canon_slE,qbm,qbu,str_canon]
     rfl
    have hsp:sliceParts 1 false 0 [(0,encL 1 (v.ing.map .str)),(1,encL 1 ((pn 1 v.path).map .str))]=some [encL 1 (v.ing.map .str),encL 1 ((pn 1 v.path).map .str)]:=by
     simp [sliceParts,cell_encL]
    have hks:KeepS (A++[.cells (ivC v),.cells (topC t)]) (accA b' (A++[.cells (ivC v),.cells (topC t)]) ((v.ing++pn 1 v.path).map .str)):=by
     cases b' with
     | none=>exact KeepS.app _ _
     | some e=>exact KeepS.refl _
    have hrk:=acc_rowK (c:=(A++[.cells (ivC v),.cells (topC t)]:St).length) hb'
    have hlo:=s21_loop v hv t hok A (accA b' (A++[.cells (ivC v),.cells (topC t)]) ((v.ing++pn 1 v.path).map .str)) (A.length+1)
     ((hks.old (A.length+1) (by simp)).trans (by rw [get_sh];rfl)) ((KeepS.app A _).trans hks) (accD b' (A++[.cells (ivC v),.cells (topC t)]:St).length 1 ((v.ing++pn 1 v.path).map .str)) (v.ing++pn 1 v.path)
     ⟨hrk.len,hrk.idx,fun m hm=>by
      cases b' with
      | none=>exact hrk.shut m (by simp only [accA,List.length_append,List.length_cons,List.length_nil] at hm ⊢;omega)
      | some e =>
       have hp:∀ m,D.shutL m ((v.ing++pn 1 v.path).map .str)=(v.ing++pn 1 v.path).map .str:=(plainStr _).shut
       show (D.sl .full e ((v.ing++pn 1 v.path).map .str)).shut m=D.sl .full e ((v.ing++pn 1 v.path).map .str)
       simp only [D.shut,Own.shut,hp]⟩
     (by simp;omega) (v.ing++pn 1 v.path) 0 rfl (by omega)
    simp only [List.length_append,List.length_cons,List.length_nil,Nat.zero_add,Nat.reduceAdd,Int.natCast_zero] at hlo
    (repeat' first|(with_reducible first|apply qa3|apply qa1|apply qaa (b:=false)|apply qan|(apply tot_neq_t;omega))|((conv=>arg 2;arg 1;simp (disch:=first|omega|assumption) only [qaf,qb0,Nat.zero_add,Nat.add_zero,List.length_append,List.length_cons,List.length_nil,qbs,qbl,qbf,ld_sh,qa7,ldc0,ldcS,len_acc,List.length_map,ext0,extS,Nat.reduceAdd,ivbx,topbx,topcA,hct,r52,hc1,ivcA,hcv,r14,hf,ivc1,topc0,ivc6,qb2,r53,hn,ivc2,hsp,hcat']);(with_reducible apply qac)))
    (refine qay ?_;(conv=>lhs;simp only []);exact hlo)
   ·rw [if_neg g3]
    (repeat' first|(with_reducible first|apply qa3|apply qa1|apply qai|apply qaa (b:=true)|apply qaa (b:=false)|apply qap|apply qan|(apply tot_neq_t;omega)|(apply tot_neq_f;omega))|((conv=>arg 2;arg 1;simp (disch:=first|omega|assumption) only [qaf,qb0,Nat.zero_add,Nat.add_zero,List.length_append,List.length_cons,List.length_nil,qbs,qbl,qbf,ld_sh,qa7,ldc0,ldcS,ivbx,topbx,topcA,hct,r52,hc1,ivcA,hcv,r14,hf,ivc1,topc0]);(with_reducible apply qac)))
    ((try conv=>arg 2;simp (disch:=first|omega|assumption) only [qae,qao,qam,qad,qaj,qab,qah,List.take_left']);refine qal ?_)
    rfl
  ·rw [if_neg g2]
   (repeat' first|(with_reducible first|apply qa3|apply qa1|apply qai|apply qaa (b:=true)|apply qaa (b:=false)|apply qap|apply qan|(apply tot_neq_t;omega)|(apply tot_neq_f;omega))|((conv=>arg 2;arg 1;simp (disch:=first|omega|assumption) only [Nat.zero_add,List.length_append,List.length_cons,List.length_nil,qbs,qbl,qbf,ld_sh,qa7,ldc0,ldcS,ivbx,topbx,topcA,hct,r52,hc1,ivcA,hcv,r14,hf]);(with_reducible apply qac)))
   ((try conv=>arg 2;simp (disch:=first|omega|assumption) only [qae,qao,qam,qad,qaj,qab,qah,List.take_left']);refine qal ?_)
   rfl
 ·rw [if_neg g1]
  (repeat' first|(with_reducible first|apply qa3|apply qa1|apply qai|apply qaa (b:=true)|apply qap|(apply tot_neq_f;omega))|((conv=>arg 2;arg 1;simp (disch:=first|omega|assumption) only [Nat.zero_add,List.length_append,List.length_cons,List.length_nil,qbs,qbl,qbf,ld_sh,ldc0,ldcS,ivbx,topbx,topcA,hct,r52,hc1]);(with_reducible apply qac)))
  ((try conv=>arg 2;simp (disch:=first|omega|assumption) only [qae,qao,qam,qad,qaj,qab,qah,List.take_left']);refine qal ?_)
  rfl
end
end Go.Vm.Rx

/- What an invariant and a topology among the arguments stand for. -/
namespace Go.Vm.Rx
open Go Go.Proofs Go.Proofs.YtagmpieoalkneaaGreatDoor P
set_option maxRecDepth 100000
variable {H:Type} {enc:TypeId×Value→H} {w:World} {spare:Nat→Bool} {held:Bool}
theorem arg_iv {fuel:Nat} {cells:List Value} {y:DataW H×List MemPlace} (hy:DataW.trod enc Tryz.prog w 0 spare held fuel 40 cells=some y) :
  ∃ (d:D) (v:Value),v.cells.toList=cells∧VC 9 v∧Rep (g0 w) w d v∧(∃ r:Iv,d.canon=encIv r∧IvB (Rows.uptoBulk y.1) r)∧∃ c:Array Value,v=.agg c:=by
 have hl:cells.length=9:=by
  obtain ⟨hl,_⟩:=trod_struct Tryz.underlying40 hy
  have c40:Tryz.prog.cellsOf 40=9:=by kernel_rfl
  rw [c40] at hl
  exact hl
 obtain ⟨c0,c1,c2,c3,c4,c5,c6,c7,c8,rfl⟩:=nine_cells hl
 obtain ⟨_,fu',xs,hxl,hxa,hf⟩:=trod_struct Tryz.underlying40 hy
 obtain ⟨y0,g0',t0⟩:=hf 0 _ rfl
 obtain ⟨y1,g1',t1⟩:=hf 1 _ rfl
 obtain ⟨y2,g2',t2⟩:=hf 2 _ rfl
 obtain ⟨y3,g3',t3⟩:=hf 3 _ rfl
 obtain ⟨y4,g4',t4⟩:=hf 4 _ rfl
 obtain ⟨y5,g5',t5⟩:=hf 5 _ rfl
 obtain ⟨y6,g6',t6⟩:=hf 6 _ rfl
 have k9:Tryz.prog.cellsOf 9=1:=by kernel_rfl
 have k34:Tryz.prog.cellsOf 34=1:=by kernel_rfl
 have k3:Tryz.prog.cellsOf 3=1:=by kernel_rfl
 have k38:Tryz.prog.cellsOf 38=3:=by kernel_rfl
 simp only [k9,k34,k3,k38] at t0 t1 t2 t3 t4 t5 t6
 obtain ⟨nm,v0,e0,_,_,r0,b0⟩:=arg_str t0
 obtain ⟨pk,v1,e1,_,_,r1,b1⟩:=arg_str t1
 obtain ⟨ing,v2,e2,r2,b2,b2'⟩:=arg_strs t2
 obtain ⟨hp,e3,_,_⟩:=trod_int Tryz.underlying3 t3
 obtain ⟨cm,e4,_,_⟩:=trod_int Tryz.underlying3 t4
 obtain ⟨cn,e5,_,_⟩:=trod_int Tryz.underlying3 t5
 obtain ⟨d6,v6,e6,w6,r6,⟨rx,hrx,b6⟩,ca,ds3,rfl,rfl⟩:=arg_rx t6
 simp only [List.drop_zero,List.take_succ_cons,List.take_zero,List.drop_succ_cons,List.cons.injEq,and_true] at e0 e1 e2 e3 e4 e5 e6
 subst e0 e1 e2 e3 e4 e5
 unfold Rep at r6
 obtain ⟨vs,hvs,r6⟩:=r6
 cases hvs
 have ec:(Value.agg ca).cells=ca:=by simp [Value.cells]
 rw [ec] at e6
 rw [e6] at r6
 have hsum:Rows.uptoBulk y0.1≤Rows.uptoBulk y.1∧Rows.uptoBulk y1.1≤Rows.uptoBulk y.1∧Rows.uptoBulk y2.1≤Rows.uptoBulk y.1∧Rows.uptoBulk y6.1≤Rows.uptoBulk y.1:=by
  rw [hxa]
  match xs,hxl,g0',g1',g2',g6' with
  | [z0,z1,z2,z3,z4,z5,z6],_,p0,p1,p2,p6 =>
   simp only [List.getElem?_cons_succ,List.getElem?_cons_zero,Option.some.injEq] at p0 p1 p2 p6
   subst p0 p1 p2 p6
   simp only [List.map_cons,List.map_nil,Rows.uptoBulk,Rows.uptoBulkAll]
   omega
 obtain ⟨s0,s1,s2,s6⟩:=hsum
 refine ⟨.agg (.str nm::.str pk::.sl .sh 1 (ing.map .str)::.int .i64 hp::.int .i64 cm::.int .i64 cn::ds3),.agg #[c0,c1,c2,.int .i64 hp,.int .i64 cm,.int .i64 cn,c6,c7,c8],rfl,⟨rfl,fun z hz=>?_⟩, ?_,⟨⟨nm,pk,ing,hp,cm,cn,rx⟩, ?_,⟨by show nm.length≤_;omega,by show pk.length≤_;omega,by show ing.length≤_;omega,fun s hs=>by have:=b2' s hs;omega,by show wt rx≤_;omega⟩⟩,_,rfl⟩
 ·have hz':z=c0∨z=c1∨z=c2∨z=.int .i64 hp∨z=.int .i64 cm∨z=.int .i64 cn∨z=c6∨z=c7∨z=c8:=by simpa [Value.cells] using hz
  have hm:∀ u,u ∈ [c6,c7,c8]→u.oneCell'=true:=fun u hu=>w6.2 u (by rw [ec];rw [← e6] at hu;simpa using hu)
  rcases hz' with rfl|rfl|rfl|rfl|rfl|rfl|rfl|rfl|rfl
  ·exact (one_cell r0 (.inr ⟨_,rfl⟩)).1
  ·exact (one_cell r1 (.inr ⟨_,rfl⟩)).1
  ·exact (one_cell r2 (.inl ⟨_,_,_,rfl⟩)).1
  ·rfl
  ·rfl
  ·rfl
  ·exact hm _ (by simp)
  ·exact hm _ (by simp)
  ·exact hm _ (by simp)
 ·unfold Rep
  refine ⟨_,rfl, ?_⟩
  unfold RepL
  refine ⟨_,_,rfl,r0, ?_⟩
  unfold RepL
  refine ⟨_,_,rfl,r1, ?_⟩
  unfold RepL
  refine ⟨_,_,rfl,r2, ?_⟩
  unfold RepL
  refine ⟨_,_,rfl,by unfold Rep;rfl, ?_⟩
  unfold RepL
  refine ⟨_,_,rfl,by unfold Rep;rfl, ?_⟩
  unfold RepL
  exact ⟨_,_,rfl,by unfold Rep;rfl,r6⟩
 ·rw [canon_agg,encRx_eq] at hrx
  have hd:=D.agg.inj hrx
  have hs:(D.sl .sh 1 (ing.map .str)).canon=encL 1 (ing.map .str):=canon_sl (plainStr ing) _ _
  simp only [canon_agg,qbm,qat,qaj,hs,hd]
  rfl
theorem rows_of {α:Type} {f:α→D} {B:Nat→α→Prop} (hB:∀ n m a,n≤m→B n a→B m a) {ds:List D} (els:List (DataW H)):ds.length=els.length→(∀ (i:Nat) d,ds[i]?=some d→∃ y,els[i]?=some y∧∃ r:α,d.canon=f r∧B (Rows.uptoBulk y) r) →
  ∃ l:List α,D.canonL ds=l.map f∧l.length≤Rows.uptoBulkAll els∧∀ r,r ∈ l→B (Rows.uptoBulkAll els) r:=by
 induction ds generalizing els with
 | nil=>exact fun _ _=>⟨[],rfl,by simp,fun r hr=>by cases hr⟩
 | cons d ds ih =>
  intro hl h
  have hbl:=bulk_len els
  cases els with
  | nil=>simp at hl
  | cons e els =>
   obtain ⟨y,hy,r,hr,hb⟩:=h 0 d rfl
   simp only [List.getElem?_cons_zero,Option.some.injEq] at hy
   subst hy
   obtain ⟨l,hl1,hl2,hl3⟩:=ih els (by simpa using hl) fun i d hi=>by
    obtain ⟨y,hy,q⟩:=h (i+1) d (by simpa using hi)
    exact ⟨y,by simpa using hy,q⟩
   have hl4:l.length=ds.length:=by
    have:=congrArg List.length hl1
    rw [canonL_length,List.length_map] at this
    exact this.symm
   refine ⟨r::l,by rw [qbm,hr,hl1];rfl, ?_,fun q hq=>?_⟩
   ·simp only [List.length_cons] at hl hbl ⊢;omega
   ·unfold Rows.uptoBulkAll
    rcases List.mem_cons.1 hq with rfl|hq
    ·exact hB _ _ _ (by omega) hb
    ·exact hB _ _ _ (by omega) (hl3 q hq)
def DevB (n:Nat) (d:Dev):Prop:=d.nm.length≤n∧(d.cl.length≤n∧∀ s,s ∈ d.cl→s.length≤n)∧d.po.length≤n∧∀ s,s ∈ d.po→s.length≤n
def LnkB (n:Nat) (x:Lnk):Prop:=x.p.length≤n∧x.q.length≤n
def TopB (n:Nat) (t:Top):Prop:=(t.ds.length≤n∧∀ d,d ∈ t.ds→DevB n d)∧t.ls.length≤n∧∀ x,x ∈ t.ls→LnkB n x
theorem DevB.mono (n m:Nat) (d:Dev) (hm:n≤m) (h:DevB n d):DevB m d:=⟨Nat.le_trans h.1 hm,⟨Nat.le_trans h.2.1.1 hm,fun s hs=>Nat.le_trans (h.2.1.2 s hs) hm⟩,Nat.le_trans h.2.2.1 hm,fun s hs=>Nat.le_trans (h.2.2.2 s hs) hm⟩
theorem LnkB.mono (n m:Nat) (x:Lnk) (hm:n≤m) (h:LnkB n x):LnkB m x:=⟨Nat.le_trans h.1 hm,Nat.le_trans h.2 hm⟩
theorem TopB.mono {n m:Nat} {t:Top} (h:TopB n t) (hm:n≤m):TopB m t:=⟨⟨Nat.le_trans h.1.1 hm,fun d hd=>DevB.mono _ _ _ hm (h.1.2 d hd)⟩,Nat.le_trans h.2.1 hm,fun x hx=>LnkB.mono _ _ _ hm (h.2.2 x hx)⟩
theorem TopB.ok {n:Nat} {t:Top} (h:TopB n t) (hn:n≤100000000):TopOk t :=
 ⟨⟨Nat.le_trans h.1.1 hn,fun d hd=>have q:=h.1.2 d hd;⟨Nat.le_trans q.1 hn,⟨Nat.le_trans q.2.1.1 hn,fun s hs=>Nat.le_trans (q.2.1.2 s hs) hn⟩,⟨Nat.le_trans q.2.2.1 hn,fun s hs=>Nat.le_trans (q.2.2.2 s hs) hn⟩⟩⟩,
  ⟨Nat.le_trans h.2.1 hn,fun x hx=>have q:=h.2.2 x hx;⟨Nat.le_trans q.1 hn,Nat.le_trans q.2 hn⟩⟩⟩
theorem four_cells {cs:List Value} (h:cs.length=4):∃ a b c d,cs=[a,b,c,d]:=by
 match cs,h with
 | [a,b,c,d],_=>exact ⟨a,b,c,d,rfl⟩
theorem arg_dev {fuel:Nat} {cells:List Value} {y:DataW H×List MemPlace} (hl:cells.length=3) (hy:DataW.trod enc Tryz.prog w 0 spare held fuel 147 cells=some y) :
  ∃ (d:D) (v:Value),v.cells.toList=cells∧VC 3 v∧Rep (g0 w) w d v∧∃ r:Dev,d.canon=encDev r∧DevB (Rows.uptoBulk y.1) r:=by
 obtain ⟨c0,c1,c2,rfl⟩:=three_cells hl
 obtain ⟨_,fu',xs,hxl,hxa,hf⟩:=trod_struct Tryz.underlying147 hy
 obtain ⟨y0,g0',t0⟩:=hf 0 _ rfl
 obtain ⟨y1,g1',t1⟩:=hf 1 _ rfl
 obtain ⟨y2,g2',t2⟩:=hf 2 _ rfl
 have k9:Tryz.prog.cellsOf 9=1:=by kernel_rfl
 have k34:Tryz.prog.cellsOf 34=1:=by kernel_rfl
 simp only [k9,k34] at t0 t1 t2
 obtain ⟨nm,v0,e0,_,_,r0,b0⟩:=arg_str t0
 obtain ⟨cl,v1,e1,r1,b1,b1'⟩:=arg_strs t1
 obtain ⟨po,v2,e2,r2,b2,b2'⟩:=arg_strs t2
 simp only [List.drop_zero,List.take_succ_cons,List.take_zero,List.drop_succ_cons,List.cons.injEq,and_true] at e0 e1 e2
 subst e0 e1 e2
 have hsum:Rows.uptoBulk y0.1≤Rows.uptoBulk y.1∧Rows.uptoBulk y1.1≤Rows.uptoBulk y.1∧Rows.uptoBulk y2.1≤Rows.uptoBulk y.1:=by
  rw [hxa]
  match xs,hxl,g0',g1',g2' with
  | [z0,z1,z2],_,p0,p1,p2 =>
   simp only [List.getElem?_cons_succ,List.getElem?_cons_zero,Option.some.injEq] at p0 p1 p2
   subst p0 p1 p2
   simp only [List.map_cons,List.map_nil,Rows.uptoBulk,Rows.uptoBulkAll]
   omega
 obtain ⟨s0,s1,s2⟩:=hsum
 refine ⟨.agg [.str nm,.sl .sh 1 (cl.map .str),.sl .sh 1 (po.map .str)],.agg #[c0,c1,c2],rfl,⟨rfl,fun z hz=>?_⟩, ?_,⟨nm,cl,po⟩, ?_,by show nm.length≤_;omega,⟨by show cl.length≤_;omega,fun s hs=>by have:=b1' s hs;omega⟩,by show po.length≤_;omega,fun s hs=>by have:=b2' s hs;omega⟩
 ·have hz':z=c0∨z=c1∨z=c2:=by simpa [Value.cells] using hz
  rcases hz' with rfl|rfl|rfl
  ·exact (one_cell r0 (.inr ⟨_,rfl⟩)).1
  ·exact (one_cell r1 (.inl ⟨_,_,_,rfl⟩)).1
  ·exact (one_cell r2 (.inl ⟨_,_,_,rfl⟩)).1
 ·unfold Rep
  refine ⟨_,rfl, ?_⟩
  unfold RepL
  refine ⟨_,_,rfl,r0, ?_⟩
  unfold RepL
  refine ⟨_,_,rfl,r1, ?_⟩
  unfold RepL
  refine ⟨_,_,rfl,r2, ?_⟩
  unfold RepL
  rfl
 ·have hs:∀ l:List Str,(D.sl .sh 1 (l.map .str)).canon=encL 1 (l.map .str):=fun l=>canon_sl (plainStr l) _ _
  simp only [canon_agg,qbm,qbu,qat,hs]
  rfl
theorem arg_lnk {fuel:Nat} {cells:List Value} {y:DataW H×List MemPlace} (hl:cells.length=4) (hy:DataW.trod enc Tryz.prog w 0 spare held fuel 186 cells=some y) :
  ∃ (d:D) (v:Value),v.cells.toList=cells∧VC 4 v∧Rep (g0 w) w d v∧∃ r:Lnk,d.canon=encLnk r∧LnkB (Rows.uptoBulk y.1) r:=by
 obtain ⟨c0,c1,c2,c3,rfl⟩:=four_cells hl
 obtain ⟨_,fu',xs,hxl,hxa,hf⟩:=trod_struct Tryz.underlying186 hy
 obtain ⟨y0,g0',t0⟩:=hf 0 _ rfl
 obtain ⟨y1,g1',t1⟩:=hf 1 _ rfl
 obtain ⟨y2,g2',t2⟩:=hf 2 _ rfl
 obtain ⟨y3,g3',t3⟩:=hf 3 _ rfl
 have k9:Tryz.prog.cellsOf 9=1:=by kernel_rfl
 have k3:Tryz.prog.cellsOf 3=1:=by kernel_rfl
 simp only [k9,k3] at t0 t1 t2 t3
 obtain ⟨a,e0,_,_⟩:=trod_int Tryz.underlying3 t0
 obtain ⟨p,v1,e1,_,_,r1,b1⟩:=arg_str t1
 obtain ⟨b,e2,_,_⟩:=trod_int Tryz.underlying3 t2
 obtain ⟨q,v3,e3,_,_,r3,b3⟩:=arg_str t3
 simp only [List.drop_zero,List.take_succ_cons,List.take_zero,List.drop_succ_cons,List.cons.injEq,and_true] at e0 e1 e2 e3
 subst e0 e1 e2 e3
 have hsum:Rows.uptoBulk y1.1≤Rows.uptoBulk y.1∧Rows.uptoBulk y3.1≤Rows.uptoBulk y.1:=by
  rw [hxa]
  match xs,hxl,g1',g3' with
  | [z0,z1,z2,z3],_,p1,p3 =>
   simp only [List.getElem?_cons_succ,List.getElem?_cons_zero,Option.some.injEq] at p1 p3
   subst p1 p3
   simp only [List.map_cons,List.map_nil,Rows.uptoBulk,Rows.uptoBulkAll]
   omega
 obtain ⟨s1,s3⟩:=hsum
 refine ⟨.agg [.int .i64 a,.str p,.int .i64 b,.str q],.agg #[.int .i64 a,c1,.int .i64 b,c3],rfl,⟨rfl,fun z hz=>?_⟩, ?_,⟨a,p,b,q⟩,rfl,by show p.length≤_;omega,by show q.length≤_;omega⟩
 ·have hz':z=.int .i64 a∨z=c1∨z=.int .i64 b∨z=c3:=by simpa [Value.cells] using hz
  rcases hz' with rfl|rfl|rfl|rfl
  ·rfl
  ·exact (one_cell r1 (.inr ⟨_,rfl⟩)).1
  ·rfl
  ·exact (one_cell r3 (.inr ⟨_,rfl⟩)).1
 ·unfold Rep
  refine ⟨_,rfl, ?_⟩
  unfold RepL
  refine ⟨_,_,rfl,by unfold Rep;rfl, ?_⟩
  unfold RepL
  refine ⟨_,_,rfl,r1, ?_⟩
  unfold RepL
  refine ⟨_,_,rfl,by unfold Rep;rfl, ?_⟩
  unfold RepL
  refine ⟨_,_,rfl,r3, ?_⟩
  unfold RepL
  rfl
theorem arg_top {fuel:Nat} {cells:List Value} {y:DataW H×List MemPlace} (hy:DataW.trod enc Tryz.prog w 0 spare held fuel 46 cells=some y) :
  ∃ (d:D) (v:Value),v.cells.toList=cells∧VC 3 v∧Rep (g0 w) w d v∧(∃ r:Top,d.canon=encTop r∧TopB (Rows.uptoBulk y.1) r)∧∃ c:Array Value,v=.agg c:=by
 obtain ⟨hl,fu',xs,hxl,hxa,hf⟩:=trod_struct Tryz.underlying46 hy
 have c46:Tryz.prog.cellsOf 46=3:=by kernel_rfl
 rw [c46] at hl
 obtain ⟨c0,c1,c2,rfl⟩:=three_cells hl
 obtain ⟨y0,g0',t0⟩:=hf 0 _ rfl
 obtain ⟨y1,g1',t1⟩:=hf 1 _ rfl
 obtain ⟨y2,g2',t2⟩:=hf 2 _ rfl
 have k3:Tryz.prog.cellsOf 3=1:=by kernel_rfl
 have k43:Tryz.prog.cellsOf 43=1:=by kernel_rfl
 have k44:Tryz.prog.cellsOf 44=1:=by kernel_rfl
 simp only [k3,k43,k44] at t0 t1 t2
 obtain ⟨n,e0,_,_⟩:=trod_int Tryz.underlying3 t0
 obtain ⟨ds,v1,e1,r1,_,q1⟩:=slice_rep Tryz.underlying43 (n:=3) (by kernel_rfl) (by omega) t1 (fun d y=>∃ r:Dev,d.canon=encDev r∧DevB (Rows.uptoBulk y) r) (by
  intro fu cells y hl hy
  obtain ⟨d,v,h1,h2,h3,h4⟩:=arg_dev hl hy
  exact ⟨d,v,h1,h2,h3,h4⟩)
 obtain ⟨ls,v2,e2,r2,_,q2⟩:=slice_rep Tryz.underlying44 (n:=4) (by kernel_rfl) (by omega) t2 (fun d y=>∃ r:Lnk,d.canon=encLnk r∧LnkB (Rows.uptoBulk y) r) (by
  intro fu cells y hl hy
  obtain ⟨d,v,h1,h2,h3,h4⟩:=arg_lnk hl hy
  exact ⟨d,v,h1,h2,h3,h4⟩)
 simp only [List.drop_zero,List.take_succ_cons,List.take_zero,List.drop_succ_cons,List.cons.injEq,and_true] at e0 e1 e2
 subst e0 e1 e2
 obtain ⟨l1,k1,k1',k1''⟩:∃ l:List Dev,D.canonL ds=l.map encDev∧l.length≤Rows.uptoBulk y1.1∧∀ d,d ∈ l→DevB (Rows.uptoBulk y1.1) d:=by
  rcases q1 with ⟨hx,rfl⟩|⟨els,rest,hx,hl,hq⟩
  ·exact ⟨[],rfl,by simp,fun d hd=>by cases hd⟩
  ·obtain ⟨l,h1,h2,h3⟩:=rows_of DevB.mono els hl.symm hq
   refine ⟨l,h1, ?_,fun d hd=>?_⟩
   ·rw [hx];unfold Rows.uptoBulk;omega
   ·rw [hx];unfold Rows.uptoBulk;exact DevB.mono _ _ _ (by omega) (h3 d hd)
 obtain ⟨l2,k2,k2',k2''⟩:∃ l:List Lnk,D.canonL ls=l.map encLnk∧l.length≤Rows.uptoBulk y2.1∧∀ d,d ∈ l→LnkB (Rows.uptoBulk y2.1) d:=by
  rcases q2 with ⟨hx,rfl⟩|⟨els,rest,hx,hl,hq⟩
  ·exact ⟨[],rfl,by simp,fun d hd=>by cases hd⟩
  ·obtain ⟨l,h1,h2,h3⟩:=rows_of LnkB.mono els hl.symm hq
   refine ⟨l,h1, ?_,fun d hd=>?_⟩
   ·rw [hx];unfold Rows.uptoBulk;omega
   ·rw [hx];unfold Rows.uptoBulk;exact LnkB.mono _ _ _ (by omega) (h3 d hd)
 have hsum:Rows.uptoBulk y1.1≤Rows.uptoBulk y.1∧Rows.uptoBulk y2.1≤Rows.uptoBulk y.1:=by
  rw [hxa]
  match xs,hxl,g1',g2' with
  | [z0,z1,z2],_,p1,p2 =>
   simp only [List.getElem?_cons_succ,List.getElem?_cons_zero,Option.some.injEq] at p1 p2
   subst p1 p2
   simp only [List.map_cons,List.map_nil,Rows.uptoBulk,Rows.uptoBulkAll]
   omega
 obtain ⟨s1,s2⟩:=hsum
 refine ⟨.agg [.int .i64 n,.sl .sh 3 ds,.sl .sh 4 ls],.agg #[.int .i64 n,c1,c2],rfl,⟨rfl,fun z hz=>?_⟩, ?_,⟨⟨n,l1,l2⟩, ?_,⟨by show l1.length≤_;omega,fun d hd=>DevB.mono _ _ _ s1 (k1'' d hd)⟩,by show l2.length≤_;omega,fun x hx=>LnkB.mono _ _ _ s2 (k2'' x hx)⟩,_,rfl⟩
 ·have hz':z=.int .i64 n∨z=c1∨z=c2:=by simpa [Value.cells] using hz
  rcases hz' with rfl|rfl|rfl
  ·rfl
  ·exact (one_cell r1 (.inl ⟨_,_,_,rfl⟩)).1
  ·exact (one_cell r2 (.inl ⟨_,_,_,rfl⟩)).1
 ·unfold Rep
  refine ⟨_,rfl, ?_⟩
  unfold RepL
  refine ⟨_,_,rfl,by unfold Rep;rfl, ?_⟩
  unfold RepL
  refine ⟨_,_,rfl,r1, ?_⟩
  unfold RepL
  refine ⟨_,_,rfl,r2, ?_⟩
  unfold RepL
  rfl
 ·simp only [canon_agg,qbm,qbu,qaj,canon_sl',k1,k2]
  rfl
end Go.Vm.Rx

/- Names: the reference's text,with rows in rooms of their own. -/
namespace Go.Vm.Rx
open Go Go.Proofs P
set_option maxRecDepth 10000
set_option maxHeartbeats 4000000
def RowI (m:Nat) (S:St) (d:D) (l:List Str):Prop:=(d=.sl .full 0 []∧l=[])∨∃ c,m≤c∧d=.sl (.own c 0) 1 (l.map .str)∧S[c]?=some (.tok l.length)
theorem RowI.nil (m:Nat) (S:St):RowI m S (.sl .full 0 []) []:=.inl ⟨rfl,rfl⟩
section
variable {m:Nat} {S S' A:St} {d:D} {l:List Str}
theorem RowI.keeps (h:RowI m S d l) (k:KeepS S S'):RowI m S' d l:=by
 rcases h with h|⟨c,h0,h1,h2⟩
 ·exact .inl h
 ·exact .inr ⟨c,h0,h1,(k.old c (getE_lt h2)).trans h2⟩
theorem RowI.len (h:RowI m S d l):lenSlO d=some (.int .i64 (l.length:Nat)):=by
 rcases h with ⟨rfl,rfl⟩|⟨c,_,rfl,_⟩
 ·rfl
 ·simp [lenSlO]
theorem RowI.idx (h:RowI m S d l) {i:Nat} {x:Str} {t:List Str} (ht:l.drop i=x::t):indexAddrO 1 false d (.int .i64 (i:Int))=some (.peek [.str x]):=by
 have h1:=qbz ht
 rcases h with ⟨rfl,rfl⟩|⟨c,_,rfl,_⟩
 ·simp at h1
 ·have:=List.drop_eq_getElem_cons h1
  rw [ht] at this
  have he:=(List.cons.inj this).1
  simp only [indexAddrO,D.int?,Option.bind_some,Int.toNat_natCast,esOk,beq_self_eq_true,Bool.true_or,and_true]
  rw [if_pos (by omega),List.getElem?_map,List.getElem?_eq_getElem h1,← he]
  rfl
def PutOut (m:Nat) (A:St) (l:List Str) (r:Res×St):Prop:=∃ d S,r=(.ret d,S)∧RowI m S d l∧(S=A∨∃ n,S=A++[.tok n])
theorem leave_row (hm:m≤A.length) (h:RowI m S d l) (k:KeepS A S):∃ r,leaveD .own A (.ret d) S=some r∧PutOut m A l r:=by
 have hk:Kept A S:=⟨k.len,fun j hj=>.inl (k.old j hj)⟩
 have ht:S.take A.length=A:=keeps_take k
 rcases h with ⟨rfl,rfl⟩|⟨c,hm0,rfl,hc⟩
 ·refine ⟨(.ret (.sl .full 0 []),A), ?_,_,_,rfl,RowI.nil m A,.inl rfl⟩
  simp [leaveD,guardP,hk,ht,Res.shut,D.shut,D.shutL,Own.shut]
 ·have hp:D.shutL A.length (l.map .str)=l.map .str:=(plainStrs l).shut A.length
  by_cases h:c<A.length
  ·refine ⟨(.ret (.sl (.own c 0) 1 (l.map .str)),A), ?_,_,_,rfl,.inr ⟨c,hm0,rfl,(k.old c h).symm.trans hc⟩,.inl rfl⟩
   rw [leave_own_old h,hp,ht]
   simp [guardP,hk]
  ·refine ⟨(.ret (.sl (.own A.length 0) 1 (l.map .str)),A++[.tok l.length]), ?_,_,_,rfl,.inr ⟨A.length,hm,rfl,by simp⟩,.inr ⟨_,rfl⟩⟩
   rw [leave_own_new h hc,hp,ht]
   simp [guardP,hk]
theorem PutOut.keeps {r:Res×St} (h:PutOut m A l r):KeepS A r.2:=by
 obtain ⟨d,S,rfl,_,rfl|⟨n,rfl⟩⟩:=h
 ·exact KeepS.refl _
 ·exact KeepS.app _ _
end
section
variable (m:Nat) (A:St) (hm:m≤A.length) (s:Str) (l:List Str) (d:D) (hd:RowI m A d l) (hl:l.length≤100000)
include hm hd hl
theorem s134_done:∀ (t:List Str) (i:Nat) (acc:List Str),l.drop i=t→(∀ x,x ∈ t→x≠s)→acc.length+t.length≤200000 →
  Tot (PutOut m A (acc++t)) (LP Tryz.prog rxA 134 [0,1,0,1,1,1] [A] (Env.mk (sp [(0,d),(0,.str s),(3,accD none A.length 1 (acc.map .str)),(0,.bool true),(0,.int .i64 (i:Nat))] 41) []) (accA none A (acc.map .str))):=by
 have hlen:=hd.len
 intro t
 induction t with
 | nil =>
  intro i acc ht hne hb
  have h1:=qb1 ht
  obtain ⟨r,hlv,hr⟩:=leave_row (A:=A) (S:=accA none A (acc.map .str)) (d:=accD none A.length 1 (acc.map .str)) (l:=acc) hm (.inr ⟨_,hm,rfl,by simp [accA]⟩) (KeepS.app _ _)
  rw [List.append_nil]
  refine qbh (q134_0 ..) ?_
  unfold n134_0;dsimp only
  (repeat' first|(with_reducible first|(apply tot_jn;intro hkk hke)|(apply tot_jk;· assumption)|apply qai|apply qaa (b:=false)|apply qan)|((conv=>arg 2;arg 1;simp (disch:=first|omega|assumption) only [Option.map_some,qax,qb5,Bool.not_true,qa6,qa9,qa8,eg_0,eg_S,hlen]);(with_reducible first|apply qac|(apply qa2;omega))))
  refine ⟨r, ?_,hr⟩
  conv=>lhs;simp (disch:=first|omega|assumption) only [hlv]
 | cons x t ih =>
  intro i acc ht hne hb
  have h1:=qbz ht
  have hx:=hd.idx ht
  have hxs:¬ x=s:=hne x (by simp)
  simp only [List.length_cons] at hb
  have hap:=app_acc1 (A:=A) (n:=1) (w:=16) (d:=.str x) (AccOk.own 1 (acc.map .str)) (by simp only [List.length_map];omega) (by omega)
  have e1:List.map D.str acc++[D.str x]=(acc++[x]).map .str:=by simp
  rw [e1] at hap
  have hih:=ih (i+1) (acc++[x]) (qbi ht) (fun y hy=>hne y (List.mem_cons_of_mem _ hy)) (by simp only [List.length_append,List.length_cons,List.length_nil];omega)
  rw [Int.natCast_add,Int.natCast_one] at hih
  have e:acc++x::t=acc++[x]++t:=by simp
  rw [e]
  refine qbh (q134_0 ..) ?_
  unfold n134_0;dsimp only
  (repeat' first|(with_reducible first|(apply tot_jn;intro hkk hke)|(apply tot_jk;· assumption)|apply qac|apply qa3|apply qaz|apply qag (b:=false)|apply qaa (b:=true)|apply qaa (b:=false)|apply qap|apply qan|apply qbj)|((conv=>arg 2;arg 1;simp (disch:=first|omega|assumption) only [qak,qbe,qa5,qav,qa4,qb5,Bool.not_true,qa6,qa9,qa8,qb4,eg_0,eg_S,hlen,hx,hap]);(with_reducible first|apply qac|apply qaa (b:=false)|(apply qas;omega)|(apply tot_seql_f;first|assumption|decide|exact List.cons_ne_nil _ _))))
  conv=>arg 2;simp only [qa6,qa9,qa8,eg_0,eg_S]
  exact hih
theorem s134_loop (hs:Ris l):∀ (t:List Str) (i:Nat) (acc:List Str) (b:Option Nat),l.drop i=t→acc++t=l→AccOk b 1 (acc.map .str) →
  Tot (PutOut m A (acc++putN s t)) (LP Tryz.prog rxA 134 [0,1,0,1,1,1] [A] (Env.mk (sp [(0,d),(0,.str s),(3,accD b A.length 1 (acc.map .str)),(0,.bool false),(0,.int .i64 (i:Nat))] 41) []) (accA b A (acc.map .str))):=by
 have hlen:=hd.len
 intro t
 induction t with
 | nil =>
  intro i acc b ht hat ho
  have h1:=qb1 ht
  have hal:acc.length≤l.length:=by rw [← hat];simp
  have hap:=app_acc1 (A:=A) (w:=16) (d:=.str s) ho (by simp only [List.length_map];omega) (by omega)
  have e1:List.map D.str acc++[D.str s]=(acc++[s]).map .str:=by simp
  rw [e1] at hap
  obtain ⟨r,hlv,hr⟩:=leave_row (A:=A) (S:=accA none A ((acc++[s]).map .str)) (d:=accD none A.length 1 ((acc++[s]).map .str)) (l:=acc++[s]) hm (.inr ⟨_,hm,rfl,by simp [accA]⟩) (KeepS.app _ _)
  have e2:acc++putN s []=acc++[s]:=rfl
  rw [e2]
  refine qbh (q134_0 ..) ?_
  unfold n134_0;dsimp only
  (repeat' first|(with_reducible first|(apply tot_jn;intro hkk hke)|(apply tot_jk;· assumption)|apply qa3|apply qai|apply qaa (b:=true)|apply qaa (b:=false)|apply qap|apply qan)|((conv=>arg 2;arg 1;simp (disch:=first|omega|assumption) only [Option.map_some,qax,qb5,Bool.not_false,qa6,qa9,qa8,qb4,eg_0,eg_S,hlen,hap]);(with_reducible first|apply qac|(apply qa2;omega))))
  refine ⟨r, ?_,hr⟩
  conv=>lhs;simp (disch:=first|omega|assumption) only [hlv]
 | cons x t ih =>
  intro i acc b ht hat ho
  have h1:=qbz ht
  have hx:=hd.idx ht
  have hal:acc.length+(t.length+1)=l.length:=by rw [← hat];simp
  have hrt:Ris (x::t):=by
   unfold Ris at hs ⊢
   rw [← hat,List.pairwise_append] at hs
   exact hs.2.1
  have hrx:=(List.pairwise_cons.1 hrt).1
  have hap:=app_acc1 (A:=A) (w:=16) (d:=.str x) ho (by simp only [List.length_map];omega) (by omega)
  have e1:List.map D.str acc++[D.str x]=(acc++[x]).map .str:=by simp
  rw [e1] at hap
  by_cases hq:x=s
  ·have e:acc++putN s (x::t)=l:=by unfold putN;rw [if_pos hq,hat]
   rw [e]
   have hk:KeepS A (accA b A (acc.map .str)):=by cases b with
    | none=>exact KeepS.app _ _
    | some e=>exact KeepS.refl _
   obtain ⟨r,hlv,hr⟩:=leave_row hm (hd.keeps hk) hk
   refine qbh (q134_0 ..) ?_
   unfold n134_0;dsimp only
   (repeat' first|(with_reducible first|apply qa3|apply qai|apply qaa (b:=true)|apply qap)|((conv=>arg 2;arg 1;simp (disch:=first|omega|assumption) only [Option.map_some,qax,qav,qa4,qa6,qa9,qa8,hlen,hx]);(with_reducible first|apply qac|(apply qas;omega)|(apply tot_seql_t;first|assumption|with_reducible rfl))))
   refine ⟨r, ?_,hr⟩
   conv=>lhs;simp (disch:=first|omega|assumption) only [hlv]
  ·by_cases hlt:s<x
   ·have hls:=lss_t hlt
    have hap2:=app_acc1 (A:=A) (w:=16) (d:=.str s) ho (by simp only [List.length_map];omega) (by omega)
    have e2:List.map D.str acc++[D.str s]=(acc++[s]).map .str:=by simp
    rw [e2] at hap2
    have hap3:=app_acc1 (A:=A) (w:=16) (d:=.str x) (.own 1 ((acc++[s]).map .str)) (by simp only [List.length_map,List.length_append,List.length_cons,List.length_nil];omega) (by omega)
    have e3:List.map D.str (acc++[s])++[D.str x]=(acc++[s]++[x]).map .str:=by simp
    rw [e3] at hap3
    have hdn:=s134_done m A hm s l d hd hl t (i+1) (acc++[s]++[x]) (qbi ht) (fun y hy e=>by
     subst e;exact List.lt_irrefl _ (List.lt_trans hlt (hrx _ hy))) (by simp only [List.length_append,List.length_cons,List.length_nil];omega)
    rw [Int.natCast_add,Int.natCast_one] at hdn
    have e:acc++putN s (x::t)=acc++[s]++[x]++t:=by unfold putN;rw [if_neg hq,if_pos hlt];simp
    rw [e]
    refine qbh (q134_0 ..) ?_
    unfold n134_0;dsimp only
    (repeat' first|(with_reducible first|(apply tot_jn;intro hkk hke)|(apply tot_jk;· assumption)|apply qac|apply qa3|apply qaz|apply qag (b:=true)|apply qaa (b:=true)|apply qaa (b:=false)|apply qap|apply qan|apply qbd)|((conv=>arg 2;arg 1;simp (disch:=first|omega|assumption) only [qaq,qbe,qa5,qav,qa4,qb5,Bool.not_false,qa6,qa9,qa8,qb4,eg_0,eg_S,hlen,hx,hls,hap2,hap3]);(with_reducible first|apply qac|apply qaa (b:=true)|(apply qas;omega)|(apply tot_seql_f;first|assumption|decide|exact List.cons_ne_nil _ _))))
    conv=>arg 2;simp only [qa6,qa9,qa8,eg_0,eg_S]
    exact hdn
   ·have hls:=lss_f hlt
    have hih:=ih (i+1) (acc++[x]) none (qbi ht) (by rw [← hat];simp) (.own _ _)
    rw [Int.natCast_add,Int.natCast_one] at hih
    have e:acc++putN s (x::t)=acc++[x]++putN s t:=by
     have:putN s (x::t)=x::putN s t:=by
      conv=>lhs;unfold putN
      rw [if_neg hq,if_neg hlt]
     rw [this];simp
    rw [e]
    refine qbh (q134_0 ..) ?_
    unfold n134_0;dsimp only
    (repeat' first|(with_reducible first|(apply tot_jn;intro hkk hke)|(apply tot_jk;· assumption)|apply qac|apply qa3|apply qaz|apply qag (b:=true)|apply qaa (b:=true)|apply qaa (b:=false)|apply qap|apply qan|apply qbd)|((conv=>arg 2;arg 1;simp (disch:=first|omega|assumption) only [qaq,qbe,qa5,qav,qa4,qb5,Bool.not_false,qa6,qa9,qa8,qb4,eg_0,eg_S,hlen,hx,hls,hap]);(with_reducible first|apply qac|apply qaa (b:=false)|(apply qas;omega)|(apply tot_seql_f;first|assumption|decide|exact List.cons_ne_nil _ _))))
    conv=>arg 2;simp only [qa6,qa9,qa8,eg_0,eg_S]
    exact hih
theorem s134 (hs:Ris l):Tot (PutOut m A (putN s l)) (f134 d (.str s) A):=by
 have hlo:=s134_loop m A hm s l d hd hl hs l 0 [] (some 0) rfl (by simp) (.nil _)
 rw [Int.natCast_zero] at hlo
 unfold f134 n134;dsimp only
 skip
 conv=>arg 2;simp only []
 exact hlo
end
end Go.Vm.Rx

/- Names: the reference's text. -/
namespace Go.Vm.Rx
open Go Go.Proofs P
set_option maxRecDepth 10000
set_option maxHeartbeats 4000000
abbrev rxC (r:P.Rx):List D:=[.int .i64 r.op,.str r.nm,encL 3 (r.ks.map encRx)]
def NmSpec (op:Int) (r:P.Rx):Prop:=∀ (m:Nat) (l:List Str) (d:D) (A:St),m≤A.length→l.length+r.size≤100000→Ris l→RowI m A d l→Tot (PutOut m A (rn op r l)) (f105 (encRx r) (.int .i64 op) d A)
theorem box_ld {A S:St} {cs:List D} (h:KeepS (A++[.cells cs]) S) (g:Bool) (m off:Nat):loadO g m (.ref A.length off) S=ofCells g cs off m :=
 load_get ((h.old A.length (by simp)).trans (by simp))
theorem s105_loop (op:Int) (r:P.Rx) (hr:r.Ok) (hk:∀ k,k ∈ r.ks→NmSpec op k) (m:Nat) (A:St) (hm:m≤A.length):∀ (t:List P.Rx) (i:Nat) (l:List Str) (d:D) (S:St),r.ks.drop i=t→l.length+Rx.sizes t≤100000→Ris l→KeepS (A++[.cells (rxC r)]) S→RowI m S d l →
  Tot (PutOut m A (rnL op t l)) (LP Tryz.prog rxA 105 [0,1,0,1,1] [A] (Env.mk (sp [(1,.int .i64 op),(0,d),(0,.ref A.length 0),(3,.int .i64 (i:Nat))] 24) []) S):=by
 intro t
 have hl:=hr.len
 induction t with
 | nil =>
  intro i l d S ht hb hs hkp hrow
  have h1:=qb1 ht
  have hld:=box_ld hkp
  have hf2:ofCells false (rxC r) 2 1=some (encL 3 (r.ks.map encRx)):=rfl
  obtain ⟨x,hlv,hx⟩:=leave_row hm hrow ((KeepS.app A [.cells (rxC r)]).trans hkp)
  refine qbh (q105_0 ..) ?_
  unfold n105_0;dsimp only
  (repeat' first|(with_reducible first|apply qa3|apply qai|apply qaa (b:=false)|apply qan)|((conv=>arg 2;arg 1;simp (disch:=first|omega|assumption) only [Option.map_some,qax,qaf,Nat.zero_add,qa6,qa9,qa8,qa0,List.length_map,hld,hf2]);(with_reducible first|apply qac|(apply qa2;omega))))
  refine ⟨x, ?_,hx⟩
  conv=>lhs;simp (disch:=first|omega|assumption) only [hlv]
 | cons k t ih =>
  intro i l d S ht hb hs hkp hrow
  have h1:=qbz ht
  have hx:=qb6 (f:=encRx) ht 3 true .i64
  simp only [Rx.sizes] at hb
  have hld:=box_ld hkp
  have hf2:ofCells false (rxC r) 2 1=some (encL 3 (r.ks.map encRx)):=rfl
  have hSl:m≤S.length:=by have:=hkp.len;simp only [List.length_append] at this;omega
  have hq:=hk k (drop_mem ht) m l d S hSl (by omega) hs hrow
  have hlen:=rn_len op k l
  refine qbh (q105_0 ..) ?_
  unfold n105_0;dsimp only
  (repeat' first|(with_reducible first|apply qa3|apply qaa (b:=true)|apply qap)|((conv=>arg 2;arg 1;simp (disch:=first|omega|assumption) only [qaf,qav,Nat.zero_add,ofA3,qa6,qa9,qa8,qbc,qa0,List.length_map,hld,hf2,hx,rx_cell,rx_fold]);(with_reducible first|apply qac|(apply qas;omega))))
  conv=>arg 2;arg 1;simp (disch:=first|omega|assumption) only [qa6,qa9,qa8,r105]
  refine tot_bn hq fun z hz=>?_
  have hzk:=hz.keeps
  obtain ⟨d',S',rfl,hrow',hS'⟩:=hz
  have hih:=ih (i+1) (rn op k l) d' S' (qbi ht) (by omega) (rn_ris op k hs) (hkp.trans hzk) hrow'
  rw [Int.natCast_add,Int.natCast_one] at hih
  (repeat' first|(with_reducible apply qa1)|((conv=>arg 2;arg 1;simp (disch:=first|omega|assumption) only [qbe,qa5,qa6,qa9,qa8]);(with_reducible apply qac)))
  conv=>arg 2;simp only [qa6,qa9,qa8]
  exact hih
theorem s105 (op:Int):∀ (r:P.Rx) (hr:r.Ok),NmSpec op r:=by
 refine Rx.ind fun r ih hr m l d A hm hb hs hrow=>?_
 have hl:=hr.len
 have hkd:∀ k,k ∈ r.ks→NmSpec op k:=fun k hk=>ih k hk (hr.kid hk)
 have hsz:=Rx.size_eq r
 have hrn:rn op r l=rnL op r.ks (if r.op=op then putN r.nm l else l):=by
  obtain ⟨o,nm,ks⟩:=r
  unfold rn
  rfl
 have hka:KeepS A (A++[.cells (rxC r)]):=KeepS.app _ _
 have hm1:m≤(A++[.cells (rxC r)]:St).length:=by simp only [List.length_append];omega
 unfold f105 n105;dsimp only
 rw [hrn]
 by_cases ho:r.op=op
 ·rw [if_pos ho]
  have hq:=s134 m (A++[.cells (rxC r)]) hm1 r.nm l d (hrow.keeps hka) (by omega) hs
  have hpl:=putN_len r.nm l
  (repeat' first|(with_reducible first|(apply tot_jn;intro hkk hke)|apply qa3|apply qaa (b:=true)|apply qap|(apply qbn;omega))|((conv=>arg 2;arg 1;simp (disch:=first|omega|assumption) only [qaf,qa4,qb3,Nat.zero_add,Nat.add_zero,qa7,ldc0,rx_box]);(with_reducible apply qac)))
  conv=>arg 2;arg 1;simp (disch:=first|omega|assumption) only [r134]
  refine tot_bn hq fun z hz=>?_
  have hzk:=hz.keeps
  obtain ⟨d',S',rfl,hrow',hS'⟩:=hz
  have hlo:=s105_loop op r hr hkd m A hm r.ks 0 (putN r.nm l) d' S' rfl (by omega) (ris_putN _ hs) hzk hrow'
  rw [Int.natCast_zero] at hlo
  (repeat' first|(with_reducible first|(apply tot_jk;· assumption)|apply qa1))
  conv=>arg 2;simp only [eg_0,eg_S]
  exact hlo
 ·rw [if_neg ho]
  have hlo:=s105_loop op r hr hkd m A hm r.ks 0 l d (A++[.cells (rxC r)]) rfl (by omega) hs (KeepS.refl _) (hrow.keeps hka)
  rw [Int.natCast_zero] at hlo
  (repeat' first|(with_reducible first|(apply tot_jn;intro hkk hke)|(apply tot_jk;· assumption)|apply qa3|apply qaa (b:=false)|apply qan|(apply qbw;omega))|((conv=>arg 2;arg 1;simp (disch:=first|omega|assumption) only [qaf,qa4,Nat.add_zero,qa7,ldc0,rx_box]);(with_reducible apply qac)))
  conv=>arg 2;simp only [eg_0,eg_S]
  exact hlo
theorem s57 (r:P.Rx) (hr:r.Ok) (hc:r.check=0) (A:St):Tot (fun x=>∃ d1 d2 S',x=(.ret (.tup [d1,d2,.int .i64 0]),S')∧KeepS A S'∧RowI A.length S' d1 (pn 1 r)) (f57 (encRx r) A):=by
 have hck:=fun A=>s51 r hr A
 rw [hc] at hck
 obtain ⟨h1,h2,h3⟩:=check_0 hc
 have hka:KeepS A (A++[.cells (rxC r)]):=KeepS.app _ _
 have hle:A.length≤(A++[.cells (rxC r)]:St).length:=by simp
 have hfa:ofCells true (rxC r) 0 3=some (encRx r):=by rw [← rx_fold];rfl
 have hq1:=s105 1 r hr A.length [] (.sl .full 0 []) (A++[.cells (rxC r)]) hle (by simp only [List.length_nil];omega) ris_nil (RowI.nil _ _)
 unfold f57 n57;dsimp only
 (repeat' first|(with_reducible first|apply qa3|apply qa1|apply qaa (b:=false)|apply qan|(apply tot_neq_t;omega))|((conv=>arg 2;arg 1;simp (disch:=first|omega|assumption) only [qa7,ldc0,rx_box,hfa,qb2,r51,hck]);(with_reducible apply qac)))
 conv=>arg 2;arg 1;simp (disch:=first|omega|assumption) only [r105]
 refine tot_bn hq1 fun z hz=>?_
 have hzk:=hz.keeps
 obtain ⟨d1,S1,rfl,hrow1,hS1⟩:=hz
 have hld:=box_ld hzk
 have hq2:=s105 2 r hr A.length [] (.sl .full 0 []) S1 (Nat.le_trans hle hzk.len) (by simp only [List.length_nil];omega) ris_nil (RowI.nil _ _)
 have hsa:sameAd (.ref A.length 0) (A++[.cells (rxC r)]) S1↔True:=iff_true_intro (hzk.old A.length (by simp)).symm
 (repeat' first|(with_reducible apply qa1)|((conv=>arg 2;arg 1;simp (disch:=first|omega|assumption) only [hld,hfa]);(with_reducible apply qac)))
 conv=>arg 2;arg 1;simp (disch:=first|omega|assumption) only [r105]
 refine tot_bn hq2 fun z hz=>?_
 have hzk2:=hz.keeps
 obtain ⟨d2,S2,rfl,hrow2,hS2⟩:=hz
 have hq:Tot (fun x=>x=(Res.ret (.tup [d1,d2,.int .i64 0]),S2)) (some (Res.ret (.tup [d1,d2,.int .i64 0]),S2)):=⟨_,rfl,rfl⟩
 refine ⟨(.ret (.tup [d1,d2,.int .i64 0]),S2), ?_,d1,d2,S2,rfl,(hka.trans hzk).trans hzk2, ?_⟩
 ·conv=>lhs;simp only [elim_ret,leave_keep,leaveM_mL]
  rw [mL_gs1,guardP_true (hsa.2 trivial),mL_gs0]
 ·rw [pn_rn]
  exact hrow1.keeps hzk2
end Go.Vm.Rx

/- Which invariants a topology may have: the reference's text;the law of forms. -/
namespace Go.Vm.Rx
open Go Go.Proofs P
set_option maxRecDepth 10000
set_option maxHeartbeats 4000000
theorem allF_app (t:Top) (a b:List Str):allF t (a++b)=(allF t a && allF t b):=by simp [allF]
theorem row_more {S A:St} {d:D} {l ys:List Str} (h:RowI A.length S d l) (hk:KeepS A S) (hy:ys≠[]) (hb:l.length+ys.length≤1000000) :
  ∃ d' S',appendO 1 16 d (encL 1 (ys.map .str)) S=some (d',S')∧RowI A.length S' d' (l++ys)∧KeepS A S'∧S.length≤S'.length∧(∀ (j:Nat) (cs:List D),S[j]?=some (Slot.cells cs)→S'[j]?=some (Slot.cells cs)):=by
 have hnew:=appendNew_encL 1 (ys.map .str)
 have hys:(ys.map D.str).isEmpty=false:=by cases ys<;>simp at hy ⊢
 rcases h with ⟨rfl,rfl⟩|⟨c,hc,rfl,ht⟩
 ·refine ⟨.sl (.own S.length 0) 1 (ys.map .str),S++[.tok ys.length], ?_,.inr ⟨S.length,hk.len,rfl,by simp⟩,hk.trans (KeepS.app _ _),by simp,fun j cs hj=>?_⟩
  ·have hr:roomOk ys.length 16=true:=by simp only [roomOk,decide_eq_true_eq];simp only [List.length_nil,Nat.zero_add] at hb;omega
   simp only [List.length_nil,Nat.zero_add] at hb
   simp only [appendO,appendS,hnew,Option.bind_some,esOk,List.isEmpty_nil,Own.isOwn,Bool.not_false,Bool.and_self,Bool.or_true,List.length_nil,Nat.zero_add,List.length_map,hr,hys,true_and,List.nil_append]
   rw [if_pos (by omega)]
   rfl
  ·rw [List.getElem?_append_left (getE_lt hj)];exact hj
 ·refine ⟨.sl (.own c 0) 1 ((l++ys).map .str),S.set c (.tok (l++ys).length), ?_,.inr ⟨c,hc,rfl,List.getElem?_set_self (getE_lt ht)⟩,keeps_set hk hc,by simp,fun j cs hj=>?_⟩
  ·have hap:=append_own (s0:=0) (A:=S) (c:=c) (n:=1) (b:=16) (ds:=l.map .str) hnew (by rw [ht];simp) (by simp only [roomOk,decide_eq_true_eq,List.length_map];omega) (by simp only [List.length_map];omega)
   rw [hap]
   simp
  ·rw [List.getElem?_set_ne]
   ·exact hj
   ·intro e;subst e;rw [ht] at hj;cases hj
theorem rowI_K {S:St} {m n:Nat} {d:D} {l:List Str} (h:RowI m S d l) (hn:S.length≤n):RowK n d l:=by
 have hp:∀ m,D.shutL m (l.map .str)=l.map .str:=(plainStr l).shut
 refine ⟨h.len,h.idx,fun k hk=>?_⟩
 rcases h with ⟨rfl,rfl⟩|⟨c,_,rfl,hc⟩
 ·rfl
 ·have:c<k:=by have:=getE_lt hc;omega
  simp [D.shut,Own.shut,hp,this]
section
variable (v:Iv) (hv:IvWell v) (t:Top) (hok:TopOk t) (A:St)
include hv hok
theorem s22_loop (S:St) (kt:Nat) (hS:S[kt]?=some (.cells (topC t))) (hAS:KeepS A S) (d:D) (l:List Str) (hd:RowK S.length d l) (hl:l.length≤100000000):∀ (u:List Str) (i:Nat),l.drop i=u→i≤l.length →
  LP Tryz.prog rxA 22 [0,1,0,1,1,1,1,1,1,1,1] [A] (Env.mk (sp [(3,.ref kt 0),(3,d),(2,.int .i64 (i:Nat))] 46) []) S=some (.ret (.int .i64 (if allF t u=true then 0 else 112)),A):=by
 have hld:∀ g m off,loadO g m (.ref kt off) S=ofCells g (topC t) off m:=fun g m off=>load_get hS
 have hkl:=getE_lt hS
 have hrs:(D.ref kt 0).shut S.length=.ref kt 0:=shut_ref _ hkl
 have hds:=hd.shut S.length (Nat.le_refl _)
 have hdl:=hd.len
 have hct:(encTop t).canon=encTop t:=(plainTop t).canon
 have hK:Kept A S↔True:=iff_true_intro ⟨hAS.len,fun j hj=>.inl (hAS.old j hj)⟩
 have hT:=keeps_take hAS
 intro u
 induction u with
 | nil =>
  intro i ht hi
  have h1:=qb1 ht
  refine qbb (qbh (q22_0 ..) ?_)
  unfold n22_0;dsimp only
  (repeat' first|(with_reducible first|apply qai|apply qaa (b:=false)|apply qan)|((conv=>arg 2;arg 1;simp (disch:=first|omega|assumption) only [Option.map_some,qax,qa6,qa9,qa8,hdl]);(with_reducible first|apply qac|(apply qa2;omega))))
  ((try conv=>arg 2;simp (disch:=first|omega|assumption) only [qae,qao,qad,qaj,qab,qah,hK,hT]);refine qal ?_)
  rfl
 | cons x u ih =>
  intro i ht hi
  have h1:=qbz ht
  have hx:=hd.idx ht
  have hf:=fun A=>s58 t hok x A
  have hih:=ih (i+1) (qbi ht) (by omega)
  rw [Int.natCast_add,Int.natCast_one] at hih
  have e:allF t (x::u)=((findT x t.ds).isSome && allF t u):=rfl
  rw [e]
  refine qbb (qbh (q22_0 ..) ?_)
  unfold n22_0;dsimp only
  cases hq:(findT x t.ds).isSome
  ·have f1:=found_1 (findT x t.ds);rw [hq] at f1
   (repeat' first|(with_reducible first|apply qa1|apply qai|apply qaa (b:=true)|apply qap)|((conv=>arg 2;arg 1;simp (disch:=first|omega|assumption) only [Option.map_some,qax,qav,qa4,qb5,Bool.not_false,qa6,qa9,qa8,qat,hdl,hx,hld,topcA,hct,r58,hf,found_0,f1]);(with_reducible first|apply qac|(apply qas;omega))))
   ((try conv=>arg 2;simp (disch:=first|omega|assumption) only [qae,qao,qad,qaj,qab,qah,hK,hT]);refine qal ?_)
   simp
  ·have f1:=found_1 (findT x t.ds);rw [hq] at f1
   rw [Bool.true_and]
   (repeat' first|(with_reducible first|apply qa1|apply tp_gk|apply qaa (b:=true)|apply qaa (b:=false)|apply qap|apply qan)|((conv=>arg 2;arg 1;simp (disch:=first|omega|assumption) only [qbe,qa5,qar,qav,qa4,qb5,Bool.not_true,qa6,qa9,qa8,qat,hdl,hx,hld,topcA,hct,r58,hf,found_0,f1]);(with_reducible first|apply qac|apply qbg|(apply qas;omega))))
   refine qay ?_
   conv=>lhs;simp (disch:=first|omega|assumption) only [qao,qbr,List.take_length,List.map_nil,qa6,qa9,qa8,hrs,hds]
   exact hih
theorem s22:f22 (encIv v) (encTop t) A=some (.ret (.int .i64 (chkI v t)),A):=by
 have hc1:=fun A=>s56 t hok A
 have hf:=fun A=>s20 v hv A
 have hct:(encTop t).canon=encTop t:=(plainTop t).canon
 have hcv:(encIv v).canon=encIv v:=(plainIv v).canon
 unfold f22 n22 chkI;dsimp only
 refine qbb ?_
 by_cases g1:topE t=0
 ·rw [if_pos g1]
  rw [g1] at hc1
  by_cases g2:ivForm v=0
  ·rw [if_pos g2]
   rw [g2] at hf
   by_cases g3:(v.pk.length:Int)=t.w
   ·rw [if_pos g3]
    obtain ⟨gv,gr⟩:=ivGood hv g2
    have hpc:=gv.path
    obtain ⟨p1,p2,p3⟩:=check_0 hpc
    have hpl:=pn_len 1 v.path
    have hgl:=gv.len
    have hin:v.ing≠[]:=by
     intro h
     unfold ivRight at gr
     rw [h] at gr
     simp at gr
    have hq:=s57 v.path hv.ok.1 hpc (A++[.cells (ivC v),.cells (topC t)])
    have hrc:(encRx v.path).canon=encRx v.path:=qb2 _
    (repeat' first|(with_reducible first|apply qa3|apply qa1|apply qaa (b:=false)|apply qan|(apply tot_neq_t;omega))|((conv=>arg 2;arg 1;simp (disch:=first|omega|assumption) only [qaf,qb0,Nat.zero_add,Nat.add_zero,List.length_append,List.length_cons,List.length_nil,qbs,qbl,qbf,ld_sh,qa7,ldc0,ldcS,ivbx,topbx,topcA,hct,r56,hc1,ivcA,hcv,r20,hf,ivc1,topc0,ivc6]);(with_reducible apply qac)))
    conv=>arg 2;arg 1;simp (disch:=first|omega|assumption) only [r57,qb2]
    refine tot_bn hq fun z hz=>?_
    obtain ⟨d1,d2,S1,rfl,hk1,hrow⟩:=hz
    have hkA:KeepS A S1:=(KeepS.app A _).trans hk1
    have hrow':RowI A.length S1 d1 (pn 1 v.path):=by
     rcases hrow with h|⟨c,h0,h1,h2⟩
     ·exact .inl h
     ·exact .inr ⟨c,by simp only [List.length_append,List.length_cons,List.length_nil] at h0;omega,h1,h2⟩
    obtain ⟨d',S',hap,hrow2,hk2,hl2,hcs⟩:=row_more hrow' hkA hin (by omega)
    have h0:S1[A.length]?=some (.cells (ivC v)):=(hk1.old A.length (by simp)).trans (by simp)
    have h1:S1[A.length+1]?=some (.cells (topC t)):=(hk1.old (A.length+1) (by simp)).trans (by rw [get_sh];rfl)
    have hld:∀ g m off,loadO g m (.ref A.length off) S1=ofCells g (ivC v) off m:=fun g m off=>load_get h0
    have hlo:=s22_loop v hv t hok A S' (A.length+1) (hcs _ _ h1) hk2 d' (pn 1 v.path++v.ing) (rowI_K hrow2 (Nat.le_refl _)) (by simp;omega) (pn 1 v.path++v.ing) 0 rfl (by omega)
    rw [Int.natCast_zero] at hlo
    have e:allF t (v.ing++pn 1 v.path)=allF t (pn 1 v.path++v.ing):=by rw [allF_app,allF_app,Bool.and_comm]
    rw [e]
    (repeat' first|(with_reducible first|apply qa3|apply qa1)|((conv=>arg 2;arg 1;simp (disch:=first|omega|assumption) only [qaf,Nat.zero_add,ext0,extS,hld,ivc2,hap]);(with_reducible apply qac)))
    (refine qay ?_;(conv=>lhs;simp only []);exact hlo)
   ·rw [if_neg g3]
    (repeat' first|(with_reducible first|apply qa3|apply qa1|apply qai|apply qaa (b:=true)|apply qaa (b:=false)|apply qap|apply qan|(apply tot_neq_t;omega)|(apply tot_neq_f;omega))|((conv=>arg 2;arg 1;simp (disch:=first|omega|assumption) only [qaf,qb0,Nat.zero_add,Nat.add_zero,List.length_append,List.length_cons,List.length_nil,qbs,qbl,qbf,ld_sh,qa7,ldc0,ldcS,ivbx,topbx,topcA,hct,r56,hc1,ivcA,hcv,r20,hf,ivc1,topc0]);(with_reducible apply qac)))
    ((try conv=>arg 2;simp (disch:=first|omega|assumption) only [qae,qao,qam,qad,qaj,qab,qah,List.take_left']);refine qal ?_)
    rfl
  ·rw [if_neg g2]
   (repeat' first|(with_reducible first|apply qa3|apply qa1|apply qai|apply qaa (b:=true)|apply qaa (b:=false)|apply qap|apply qan|(apply tot_neq_t;omega)|(apply tot_neq_f;omega))|((conv=>arg 2;arg 1;simp (disch:=first|omega|assumption) only [Nat.zero_add,List.length_append,List.length_cons,List.length_nil,qbs,qbl,qbf,ld_sh,qa7,ldc0,ldcS,ivbx,topbx,topcA,hct,r56,hc1,ivcA,hcv,r20,hf]);(with_reducible apply qac)))
   ((try conv=>arg 2;simp (disch:=first|omega|assumption) only [qae,qao,qam,qad,qaj,qab,qah,List.take_left']);refine qal ?_)
   rfl
 ·rw [if_neg g1]
  (repeat' first|(with_reducible first|apply qa3|apply qa1|apply qai|apply qaa (b:=true)|apply qap|(apply tot_neq_f;omega))|((conv=>arg 2;arg 1;simp (disch:=first|omega|assumption) only [Nat.zero_add,List.length_append,List.length_cons,List.length_nil,qbs,qbl,qbf,ld_sh,ldc0,ldcS,ivbx,topbx,topcA,hct,r56,hc1]);(with_reducible apply qac)))
  ((try conv=>arg 2;simp (disch:=first|omega|assumption) only [qae,qao,qam,qad,qaj,qab,qah,List.take_left']);refine qal ?_)
  rfl
theorem law_forms:f7 (encIv v) (encTop t) A=some (.ret (.bool true),A):=by
 have h1:=fun A=>s18 v hv A
 have h2:=fun A=>s19 v hv A
 have h3:=fun A=>s14 v hv A
 have h4:=fun A=>s20 v hv A
 have h5:=fun A=>s21 v hv t hok A
 have h6:=fun A=>s22 v hv t hok A
 have hct:(encTop t).canon=encTop t:=(plainTop t).canon
 have hcv:(encIv v).canon=encIv v:=(plainIv v).canon
 unfold lineD at h1 h2
 unfold f7 n7;dsimp only
 refine qbb ?_
 by_cases hq:ivForm v=0
 ·simp only [if_pos hq] at h1 h2
  (repeat' first|(with_reducible first|apply qac|apply qa3|apply qaz|apply qa1|apply tp_gs0|apply tp_gs1|apply qai|apply qag (b:=true)|apply qaa (b:=true)|apply qbd|(apply qbn;omega)|(apply tot_seql_t;first|assumption|with_reducible rfl))|((conv=>arg 2;arg 1;simp (disch:=first|omega|assumption) only [qaq,Nat.zero_add,List.length_append,List.length_cons,List.length_nil,sameAd_refl,beqt,qbs,qbl,qbf,ld_sh,qa7,ldc0,ldcS,ext0,extS,ivbx,topbx,topcA,hct,ivcA,hcv,r18,h1,r19,h2,r14,h3,r20,h4,r21,h5,r22,h6,awake_is]);(with_reducible first|apply qac|apply qbg|apply qag (b:=true)|apply qaa (b:=true))))
  ((try conv=>arg 2;simp (disch:=first|omega|assumption) only [qaq,qae,qaw,qam,qad,qau,qab,qah,List.take_left']);refine qal ?_)
  rfl
 ·simp only [if_neg hq] at h1 h2
  (repeat' first|(with_reducible first|apply qac|apply qa3|apply qaz|apply qa1|apply tp_gs0|apply tp_gs1|apply qai|apply qag (b:=true)|apply qaa (b:=true)|apply qbd|(apply qbn;omega)|(apply tot_seql_t;first|assumption|with_reducible rfl))|((conv=>arg 2;arg 1;simp (disch:=first|omega|assumption) only [qaq,Nat.zero_add,List.length_append,List.length_cons,List.length_nil,sameAd_refl,beqt,qbs,qbl,qbf,ld_sh,qa7,ldc0,ldcS,ext0,extS,ivbx,topbx,topcA,hct,ivcA,hcv,r18,h1,r19,h2,r14,h3,r20,h4,r21,h5,r22,h6,awake_is]);(with_reducible first|apply qac|apply qbg|apply qag (b:=true)|apply qaa (b:=true))))
  ((try conv=>arg 2;simp (disch:=first|omega|assumption) only [qaq,qae,qaw,qam,qad,qau,qab,qah,List.take_left']);refine qal ?_)
  rfl
end
end Go.Vm.Rx

/- The law InvarForms,called. -/
namespace Go.Vm.Rx
open Go Go.Proofs Go.Proofs.YtagmpieoalkneaaGreatDoor P
set_option maxRecDepth 100000
theorem call7 (w:World) (d0:D) (r0:Iv) (hd0:d0.canon=encIv r0) (hb0:IvB 1048576 r0) (d1:D) (r1:Top) (hd1:d1.canon=encTop r1) (hb1:TopB 1048576 r1) (args:Array Value) (ha:RepL (g0 w) w [d0,d1] args.toList) :
  Calls Tryz.prog 7 args w fun e w'=>e=.returned (.bool true)∧Go.RowKit.Below w.heap.size w w':=by
 refine call_true Tryz.func7 (by kernel_rfl) (A':=[]) ?_ ha
 rw [r7,hd0,hd1]
 exact law_forms r0 (hb0.well (by omega)) r1 (hb1.ok (by omega)) []
end Go.Vm.Rx
