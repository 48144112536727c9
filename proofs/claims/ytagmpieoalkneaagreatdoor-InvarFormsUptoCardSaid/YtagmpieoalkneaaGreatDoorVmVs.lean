/- RxS65, VmSt4, VmMat, VmVs in one text. -/
import Derived.Test.YtagmpieoalkneaaGreatDoorRxS64
import Derived.Test.YtagmpieoalkneaaGreatDoorRxS25
import Derived.Test.YtagmpieoalkneaaGreatDoorVmSort
set_option linter.all false
/- The reference's reader of a line: a sign. -/
namespace Go.Vm.Rx
open Go Go.Proofs P
set_option maxRecDepth 10000
set_option maxHeartbeats 2000000
section
variable (nm pk s:Str) (ig x:D) (h c n y:Int)
end
end Go.Vm.Rx

/- A row that grows in a store that grows: how a function is left with it. -/
namespace Go.Vm
open Go
variable {A S:St} {s0:Slot} {n:Nat} {d:D} {ds:List D}
theorem Grow.more (g:Grow A s0 n S d ds) (M:St):Grow A s0 n (S++M) d ds:=by
 obtain ⟨⟨L,rfl⟩,hr⟩:=g
 refine ⟨⟨L++M,by simp⟩, ?_⟩
 rcases hr with ⟨c,hc,rfl,ht⟩|h
 ·refine .inl ⟨c,hc,rfl, ?_⟩
  rw [List.getElem?_append_left ?_,ht]
  rcases Nat.lt_or_ge c (A++s0::L).length with h|h
  ·exact h
  ·rw [List.getElem?_eq_none h] at ht;cases ht
 ·exact .inr h
theorem app_keeps {n w:Nat} {x y d':D} {S S':St} (hx:∀ k off es len,x≠.vsl k off es len) (h:appendO n w x y S=some (d',S')):∀ (j:Nat) (cs:List D),S[j]?=some (.cells cs)→S'[j]?=some (.cells cs):=by
 intro j cs hj
 have hlt:j<S.length:=by
  rcases Nat.lt_or_ge j S.length with h|h
  ·exact h
  ·rw [List.getElem?_eq_none h] at hj;cases hj
 have e:appendO n w x y S=appendS n w x y S:=by
  unfold appendO
  split
  ·exact absurd rfl (hx _ _ _ _)
  ·rfl
 rw [e] at h
 unfold appendS at h
 simp only [Option.bind_eq_some_iff] at h
 obtain ⟨new,_,h⟩:=h
 split at h
 ·split at h
  ·split at h
   ·split at h
    ·cases h;exact hj
    ·cases h;rw [List.getElem?_append_left hlt];exact hj
   ·simp only [Option.bind_eq_some_iff] at h
    obtain ⟨s,hs,h⟩:=h
    split at h
    ·split at h
     ·cases h
      rw [List.getElem?_set]
      split
      ·rename_i e;subst e;rw [hs] at hj;cases hj
      ·exact hj
     ·cases h
    ·cases h
   ·split at h
    ·cases h;exact hj
    ·cases h
  ·cases h
 ·cases h
theorem Grow.app0 (g:Grow A s0 n S d ds) {y:D} {new:List D} {w:Nat} (hy:appendNew n y=some new) (hl:ds.length+new.length≤1000000000) (hw:w≤100000) :
  ∃ d' S',appendO n w d y S=some (d',S')∧Grow A s0 n S' d' (ds++new)∧∀ (j:Nat) (cs:List D),S[j]?=some (.cells cs)→S'[j]?=some (.cells cs):=by
 obtain ⟨d',S',h,g'⟩:=g.app [] hy hl hw
 rw [List.append_nil] at h
 exact ⟨d',S',h,g',app_keeps (by rcases g.row with ⟨c,_,rfl,_⟩|rfl|⟨rfl,_⟩<;>(intros;simp)) h⟩
theorem Grow.lit (A:St) (s0:Slot) (n:Nat) (L:St) (ds:List D):Grow A s0 n (A++s0::L) (.sl .full n ds) ds:=⟨⟨L,rfl⟩,.inr (.inl rfl)⟩
theorem Grow.acc {L:St} {b:Option Nat} (hb:AccOk b n ds):Grow A s0 n (accA b (A++s0::L) ds) (accD b (A++s0::L).length n ds) ds:=by
 cases b with
 | none =>
  refine ⟨⟨L++[.tok ds.length],by simp [accA]⟩,.inl ⟨(A++s0::L).length,by simp only [List.length_append,List.length_cons];omega,rfl, ?_⟩⟩
  simp only [accA]
  rw [List.getElem?_append_right (Nat.le_refl _)];simp
 | some e =>
  refine ⟨⟨L,rfl⟩, ?_⟩
  rcases hb with hb|hb|⟨hb,h2⟩
  ·cases hb
  ·cases hb;exact .inr (.inl rfl)
  ·cases hb;subst h2;exact .inr (.inr ⟨rfl,rfl⟩)
theorem Grow.accA (g:Grow A s0 n S d ds) (b:Option Nat) (es:List D):Grow A s0 n (accA b S es) d ds:=by
 cases b with
 | none=>exact g.more _
 | some e=>exact g
theorem Grow.leave (g:Grow A s0 n S d ds) (hp:PlainL ds):∃ b,AccOk b n ds∧leaveD RetK.own A (.ret d) S=some (.ret (accD b A.length n ds),Vm.accA b A ds):=by
 obtain ⟨⟨L,rfl⟩,hr⟩:=g
 have hk:Kept A (A++s0::L):=(qam A (s0::L)).2 trivial
 rcases hr with ⟨c,hc,rfl,ht⟩|rfl|⟨rfl,rfl⟩
 ·refine ⟨none,.own _ _, ?_⟩
  have hn:¬ c<A.length:=by omega
  simp [leaveD,guardP,hk,hn,ht,hp.shut,accD,Vm.accA]
 ·exact ⟨some n,.full _ _,by simp [leaveD,guardP,hk,Res.shut,hp.shut,Own.shut,accD,Vm.accA]⟩
 ·exact ⟨some 0,.nil _,by simp [leaveD,guardP,hk,Res.shut,D.shut,D.shutL,Own.shut,accD,Vm.accA]⟩
theorem Grow.box {cs:List D} (g:Grow A (.cells cs) n S d ds) {gg:Bool} {m off:Nat}:loadO gg m (.ref A.length off) S=ofCells gg cs off m:=by
 obtain ⟨⟨L,rfl⟩,_⟩:=g
 exact ld0
theorem Grow.box_get {cs:List D} (g:Grow A (.cells cs) n S d ds):S[A.length]?=some (.cells cs):=by
 obtain ⟨⟨L,rfl⟩,_⟩:=g
 simp
theorem load_get {cs:List D} {j:Nat} (h:S[j]?=some (.cells cs)) {gg:Bool} {m off:Nat}:loadO gg m (.ref j off) S=ofCells gg cs off m:=by simp [loadO,h]
theorem appendNew_acc {b:Option Nat} {c:Nat} (hb:AccOk b n ds):appendNew n (accD b c n ds)=some ds:=by
 cases b with
 | none=>simp [accD,appendNew,esOk]
 | some e =>
  rcases hb with hb|hb|⟨hb,h2⟩
  ·cases hb
  ·cases hb;simp [accD,appendNew,esOk]
  ·cases hb;subst h2;simp [accD,appendNew,esOk,Own.isOwn]
def RowOut (A:St) (n:Nat) (ds:List D) (x:Res×St):Prop:=∃ b,AccOk b n ds∧x=(.ret (accD b A.length n ds),Vm.accA b A ds)
theorem Grow.out (g:Grow A s0 n S d ds) (hp:PlainL ds):Tot (RowOut A n ds) (leaveD RetK.own A (.ret d) S):=by
 obtain ⟨b,hb,h⟩:=g.leave hp
 exact ⟨_,h,b,hb,rfl⟩
end Go.Vm

/- Square tables of truth values in the store: a row of rows,made one behind the other. -/
namespace Go.Vm
open Go
abbrev Mt:=Nat→Nat→Bool
def matRow (k N:Nat):List D:=(List.range N).map fun i=>.vsl (k+1+i) 0 1 N
def bits (N:Nat) (f:Nat→Bool):List D:=(List.range N).map fun j=>.bool (f j)
structure Mat (S:St) (k N:Nat) (m:Mt):Prop where
 row:S[k]?=some (.cells (matRow k N))
 el:∀ i,i<N→S[k+1+i]?=some (.cells (bits N (m i)))
structure Pres (S S':St) (k N:Nat):Prop where
 len:S'.length=S.length
 old:∀ j,¬ (k≤j∧j≤k+N)→S'[j]?=S[j]?
structure KeepS (S S':St):Prop where
 len:S.length≤S'.length
 old:∀ j,j<S.length→S'[j]?=S[j]?
theorem KeepS.refl (S:St):KeepS S S:=⟨Nat.le_refl _,fun _ _=>rfl⟩
theorem KeepS.trans {S T U:St} (h:KeepS S T) (k:KeepS T U):KeepS S U:=⟨Nat.le_trans h.len k.len,fun j hj=>(k.old j (Nat.lt_of_lt_of_le hj h.len)).trans (h.old j hj)⟩
theorem KeepS.app (S L:St):KeepS S (S++L):=⟨by simp,fun j hj=>List.getElem?_append_left hj⟩
theorem KeepS.pres {S T U:St} {k N:Nat} (h:KeepS S T) (p:Pres T U k N) (hk:S.length≤k):KeepS S U:=⟨by rw [p.len];exact h.len,fun j hj=>(p.old j (by omega)).trans (h.old j hj)⟩
theorem Pres.refl (S:St) (k N:Nat):Pres S S k N:=⟨rfl,fun _ _=>rfl⟩
theorem Pres.trans {S T U:St} {k N:Nat} (h:Pres S T k N) (p:Pres T U k N):Pres S U k N:=⟨p.len.trans h.len,fun j hj=>(p.old j hj).trans (h.old j hj)⟩
theorem getE_lt {S:St} {k:Nat} {s:Slot} (h:S[k]?=some s):k<S.length:=by
 rcases Nat.lt_or_ge k S.length with h2|h2
 ·exact h2
 ·rw [List.getElem?_eq_none h2] at h;cases h
theorem Mat.lt {S:St} {k N:Nat} {m:Mt} (h:Mat S k N m):k+N<S.length:=by
 have h0:=getE_lt h.row
 rcases Nat.eq_zero_or_pos N with rfl|hN
 ·omega
 ·have:=getE_lt (h.el (N - 1) (by omega));omega
theorem Mat.keeps {S T:St} {k N:Nat} {m:Mt} (h:Mat S k N m) (hk:KeepS S T):Mat T k N m:=by
 have hl:=h.lt
 exact ⟨(hk.old k (by omega)).trans h.row,fun i hi=>(hk.old _ (by omega)).trans (h.el i hi)⟩
theorem Mat.pres {S T:St} {k N k' N':Nat} {m:Mt} (h:Mat S k N m) (hp:Pres S T k' N') (hd:k+N<k'∨k'+N'<k):Mat T k N m :=
 ⟨(hp.old k (by omega)).trans h.row,fun i hi=>(hp.old _ (by omega)).trans (h.el i hi)⟩
theorem Mat.congr {S:St} {k N:Nat} {m m':Mt} (h:Mat S k N m) (he:∀ i j,i<N→j<N→m i j=m' i j):Mat S k N m' :=
 ⟨h.row,fun i hi=>by
  rw [h.el i hi]
  congr 2
  unfold bits
  exact List.map_congr_left fun j hj=>by rw [he i j hi (List.mem_range.1 hj)]⟩
section
variable {S:St} {k N i j:Nat} {m:Mt}
end
end Go.Vm

/- Rows of texts in a variable: they grow,are sorted,and are left as values. -/
namespace Go.Vm
open Go
abbrev TRow (S:St) (k:Nat) (xs:List (List UInt8)):Prop:=S[k]?=some (.cells (xs.map .str))
theorem newCells_str:∀ (ys:List (List UInt8)),newCells 1 (ys.map .str)=some (ys.map .str)
 | []=>rfl
 | y::ys=>by simp [newCells,cellsAny,D.cellsT,D.cell?,newCells_str ys]
theorem tok_v0 (A:St):tokO [(0,1000001)] (.sl .full 0 []) A=some (.vsl A.length 0 1 0,A++[.cells []]):=tok_vsl 0 1000001 0 A (by omega)
theorem tok_vv (A:St) (k off es len:Nat) (h:List (Nat×Nat)):tokO h (.vsl k off es len) A=some (.vsl k off es len,A):=by
 unfold tokO tokD
 cases h with
 | nil=>rfl
 | cons x r=>obtain ⟨a,b⟩:=x;rfl
theorem app_v {S:St} {k:Nat} {xs ys:List (List UInt8)} (h:TRow S k xs) {y:D} (hy:appendNew 1 y=some (ys.map .str)) (hb:xs.length+ys.length≤1000000) :
  ∃ k' S',appendO 1 16 (.vsl k 0 1 xs.length) y S=some (.vsl k' 0 1 (xs++ys).length,S')∧TRow S' k' (xs++ys)∧S.length≤S'.length∧(∀ j,j≠k→j<S.length→S'[j]?=S[j]?)∧(k'=k∨k'=S.length):=by
 have hr:roomOk (xs.length+(ys.map D.str).length) 16=true:=by
  simp only [roomOk,decide_eq_true_eq,List.length_map];omega
 have hr2:xs.length+(ys.map D.str).length≤9223372036854775807:=by simp only [List.length_map];omega
 cases ys with
 | nil =>
  refine ⟨k,S, ?_,by simpa using h,Nat.le_refl _,fun _ _ _=>rfl,.inl rfl⟩
  simp only [List.map_nil] at hy hr hr2
  simp only [appendO,appendVO,hy,Option.bind_some]
  rw [if_pos ⟨trivial,trivial,hr,hr2⟩,h]
  simp
 | cons y0 ys =>
  refine ⟨S.length,S.set k .dead++[.cells ((xs++y0::ys).map .str)], ?_, ?_,by simp,fun j hj hl=>?_,.inr rfl⟩
  ·simp only [appendO,appendVO,hy,Option.bind_some]
   rw [if_pos ⟨trivial,trivial,hr,hr2⟩,h]
   simp only [Option.bind_some]
   rw [if_pos (by simp),newCells_str]
   simp
  ·unfold TRow
   rw [List.getElem?_append_right (by simp)]
   simp
  ·rw [List.getElem?_append_left (by simpa using hl),List.getElem?_set_ne (fun e=>hj e.symm)]
theorem keeps_app {A S S':St} {k:Nat} (h:KeepS A S) (hk:A.length≤k) (hl:S.length≤S'.length) (ho:∀ j,j≠k→j<S.length→S'[j]?=S[j]?):KeepS A S' :=
 ⟨Nat.le_trans h.len hl,fun j hj=>(ho j (by omega) (Nat.lt_of_lt_of_le hj h.len)).trans (h.old j hj)⟩
theorem keeps_set {A S:St} {k:Nat} {s:Slot} (h:KeepS A S) (hk:A.length≤k):KeepS A (S.set k s) :=
 ⟨by simpa using h.len,fun j hj=>by rw [List.getElem?_set_ne (by omega)];exact h.old j hj⟩
theorem keeps_take {A S:St} (h:KeepS A S):S.take A.length=A:=by
 apply List.ext_getElem?
 intro j
 rcases Nat.lt_or_ge j A.length with hj|hj
 ·rw [List.getElem?_take_of_lt hj,h.old j hj]
 ·rw [List.getElem?_eq_none hj,List.getElem?_eq_none (by simp;omega)]
theorem keeps_kept {A S:St} (h:KeepS A S):Kept A S:=⟨h.len,fun j hj=>.inl (h.old j hj)⟩
theorem rowV_one:∀ (m:Nat) (cs:List D),m≤cs.length→rowV 1 m cs=cs.take m
 | 0,cs,_=>by simp [rowV]
 | m+1,[],h=>by simp at h
 | m+1,c::cs,h=>by
  simp only [rowV,List.take_succ_cons,List.drop_succ_cons,List.drop_zero]
  rw [rowV_one m cs (by simpa using h)]
  rfl
theorem mapVL_str (n:Nat) (G:Nat→Nat→Nat→Nat→D):∀ (xs:List (List UInt8)),D.mapVL n G (xs.map .str)=xs.map .str
 | []=>by simp [D.mapVL]
 | x::xs=>by simp [D.mapVL,D.mapV,mapVL_str n G xs]
theorem canonL_str:∀ (xs:List (List UInt8)),D.canonL (xs.map .str)=xs.map .str
 | []=>by simp [D.canonL]
 | x::xs=>by simp [D.canonL,D.canon,canonL_str xs]
theorem leave_frz {A S:St} {k m:Nat} {xs:List (List UInt8)} (hk:KeepS A S) (h:TRow S k xs) (hA:A.length≤k) (hm:m≤xs.length) :
  leaveD .frz A (.ret (.vsl k 0 1 m)) S=some (.ret (encL 1 ((xs.take m).map .str)),A):=by
 have e:((D.vsl k 0 1 m).frz A.length S)=.sl .sh 1 ((xs.take m).map .str):=by
  simp only [D.frz,D.mapV,if_neg (Nat.not_lt.2 hA)]
  unfold frzV
  rw [h]
  simp only [List.drop_zero]
  rw [rowV_one _ _ (by simpa using hm),← List.map_take,mapVL_str]
 simp only [leaveD,Res.frz,e,Res.canon,guardP_true (keeps_kept hk),keeps_take hk]
 congr 3
 unfold encL
 simp only [D.canon,canonL_str]
 cases xs.take m with
 | nil=>rfl
 | cons x r=>rfl
end Go.Vm
