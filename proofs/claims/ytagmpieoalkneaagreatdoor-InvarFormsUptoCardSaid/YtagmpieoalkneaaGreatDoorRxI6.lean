/- RxPure, RxPure2, RxPure3, RxI, RxI2, RxI3, RxI4, RxW, RxW2, RxW3, RxI5, RxI6 in one text. -/
set_option linter.all false
/- Plain words: what texts,words and path expressions come to;no program in sight. -/
namespace Go.Vm.P
abbrev Str:=List UInt8

def digit (c:UInt8):Bool:=decide (48≤c.toNat∧c.toNat≤57)
def letter (c:UInt8):Bool:=decide (97≤c.toNat∧c.toNat≤122) || decide (65≤c.toNat∧c.toNat≤90) || digit c || decide (c.toNat=95) || decide (c.toNat=45)
def singles:Str:=[40,41,44,124,42,43,63,46,36,61,60,62]
def single (c:UInt8):Bool:=singles.contains c
def pair (s:Str):Bool:=s == [61,61] || s == [60,61] || s == [62,61] || s == [45,62]
def isName:Str→Bool
 | []=>false
 | c::r=>decide (r.length<64) && !digit c && decide (c.toNat≠45) && (c::r).all letter
def run:Str→Nat
 | []=>0
 | c::r=>if letter c && !([45,62].isPrefixOf (c::r)) then run r+1 else 0
def wlen:Str→Nat
 | []=>0
 | c::r=>if decide (1≤r.length) && pair ((c::r).take 2) then 2 else if single c then 1 else run (c::r)
structure Word where
 t:Str
 line:Int
 col:Int
instance:Inhabited Word:=⟨⟨[],0,0⟩⟩
theorem run_le:∀ s,run s≤s.length
 | []=>Nat.le_refl _
 | c::r=>by
  unfold run
  split
  ·simpa using run_le r
  ·simp
theorem wlen_le (s:Str):wlen s≤s.length:=by
 unfold wlen
 split
 ·simp
 ·split
  ·rename_i h;simp at h;simp;omega
  ·split
   ·simp
   ·exact run_le _
def toks (n:Int) (fuel:Nat) (at_:Nat) (s:Str):Option (Except Nat (List Word)) :=
 match fuel with
 | 0=>none
 | fuel+1=>match s with
  | []=>some (.ok [])
  | c::r =>
   if c=35 then some (.ok [])
   else if c=32∨c=9 then toks n fuel (at_+1) r
   else if wlen (c::r)=0 then some (.error at_)
   else (toks n fuel (at_+wlen (c::r)) ((c::r).drop (wlen (c::r)))).map fun x=>x.map fun l=>⟨(c::r).take (wlen (c::r)),n,at_+1⟩::l
theorem byte_eq (c d:UInt8):c=d↔c.toNat=d.toNat:=UInt8.toNat_inj.symm
theorem toks_nil (n:Int) (f a:Nat):toks n (f+1) a []=some (.ok []):=rfl
theorem toks_cons (n:Int) (f a:Nat) (c:UInt8) (r:Str):toks n (f+1) a (c::r) =
  if c.toNat=35 then some (.ok []) else if c.toNat=32∨c.toNat=9 then toks n f (a+1) r
  else if wlen (c::r)=0 then some (.error a)
  else (toks n f (a+wlen (c::r)) ((c::r).drop (wlen (c::r)))).map fun x=>x.map fun l=>⟨(c::r).take (wlen (c::r)),n,a+1⟩::l:=by
 rw [toks]
 simp only [byte_eq]
 rfl
theorem toks_some (n:Int):∀ (f a:Nat) (s:Str),s.length<f→∃ x,toks n f a s=some x
 | 0,_,_,h=>by omega
 | f+1,a,[],h=>⟨_,rfl⟩
 | f+1,a,c::r,h=>by
  rw [toks_cons]
  simp only [List.length_cons] at h
  split
  ·exact ⟨_,rfl⟩
  ·split
   ·exact toks_some n f _ r (by omega)
   ·split
    ·exact ⟨_,rfl⟩
    ·obtain ⟨x,hx⟩:=toks_some n f (a+wlen (c::r)) ((c::r).drop (wlen (c::r))) (by simp only [List.length_drop,List.length_cons];omega)
     rw [hx]
     exact ⟨_,rfl⟩
theorem toks_err (n:Int):∀ (f a:Nat) (s:Str) (e:Nat),toks n f a s=some (.error e)→e≤a+s.length
 | 0,_,_,_,h=>by cases h
 | f+1,a,[],e,h=>by cases h
 | f+1,a,c::r,e,h=>by
  rw [toks_cons] at h
  have hw:=wlen_le (c::r)
  simp only [List.length_cons] at hw ⊢
  split at h
  ·cases h
  ·split at h
   ·have:=toks_err n f _ r e h;omega
   ·split at h
    ·cases h;omega
    ·simp only [Option.map_eq_some_iff] at h
     obtain ⟨y,hy,h2⟩:=h
     cases y with
     | ok l=>cases h2
     | error e' =>
      cases h2
      have:=toks_err n f _ _ _ hy
      simp only [List.length_drop,List.length_cons] at this
      omega
inductive Rx where
 | mk (op:Int) (nm:Str) (ks:List Rx)
def Rx.op:Rx→Int|.mk op _ _=>op
def Rx.nm:Rx→Str|.mk _ nm _=>nm
def Rx.ks:Rx→List Rx|.mk _ _ ks=>ks
instance:Inhabited Rx:=⟨.mk 0 [] []⟩
theorem Rx.ind {Q:Rx→Prop} (h:∀ r,(∀ k,k ∈ r.ks→Q k)→Q r):∀ r,Q r
 | .mk op nm ks=>h _ fun k hk=>Rx.ind h k
termination_by r=>sizeOf r
decreasing_by
 have:=List.sizeOf_lt_of_mem hk
 simp only [Rx.ks] at this
 simp only [Rx.mk.sizeOf_spec]
 omega
mutual
def Rx.size:Rx→Nat|.mk _ _ ks=>Rx.sizes ks+1
def Rx.sizes:List Rx→Nat|[]=>0|k::ks=>k.size+Rx.sizes ks
end
mutual
def Rx.depth:Rx→Nat|.mk _ _ ks=>Rx.depths ks+1
def Rx.depths:List Rx→Nat|[]=>0|k::ks=>max k.depth (Rx.depths ks)
end
def hasOp (op:Int) (ks:List Rx):Bool:=ks.any fun k=>k.op == op
def nodeOk (op:Int) (nm:Str) (ks:List Rx):Bool :=
 if op=1∨op=2 then isName nm && ks.length == 0
 else if op=3 then nm == [] && ks.length == 0
 else if op=4 then nm == [] && ks.length != 1 && !hasOp 4 ks
 else if op=5 then nm == [] && decide (2≤ks.length) && !hasOp 5 ks
 else if op=6∨op=7∨op=8 then nm == [] && ks.length == 1
 else false
mutual
def Rx.right:Rx→Bool|.mk op nm ks=>nodeOk op nm ks && Rx.rights ks
def Rx.rights:List Rx→Bool|[]=>true|k::ks=>k.right && Rx.rights ks
end
mutual
def Rx.Ok:Rx→Prop|.mk _ nm ks=>nm.length≤100000000∧ks.length≤100000000∧Rx.Oks ks
def Rx.Oks:List Rx→Prop|[]=>True|k::ks=>k.Ok∧Rx.Oks ks
end
theorem Rx.size_eq (r:Rx):r.size=Rx.sizes r.ks+1:=by cases r;rfl
theorem Rx.depth_eq (r:Rx):r.depth=Rx.depths r.ks+1:=by cases r;rfl
theorem Rx.right_eq (r:Rx):r.right=(nodeOk r.op r.nm r.ks && Rx.rights r.ks):=by cases r;rfl
theorem Rx.Ok_eq (r:Rx):r.Ok↔r.nm.length≤100000000∧r.ks.length≤100000000∧Rx.Oks r.ks:=by cases r;rfl
theorem Rx.Oks_mem:∀ {ks:List Rx},Rx.Oks ks→∀ k,k ∈ ks→k.Ok
 | k::ks,h,x,hx=>by
  rcases List.mem_cons.1 hx with rfl|hx
  ·exact h.1
  ·exact Rx.Oks_mem h.2 x hx
theorem Rx.Ok.kid {r:Rx} (h:r.Ok) {k:Rx} (hk:k ∈ r.ks):k.Ok:=Rx.Oks_mem ((Rx.Ok_eq r).1 h).2.2 k hk
theorem Rx.Ok.len {r:Rx} (h:r.Ok):r.ks.length≤100000000:=((Rx.Ok_eq r).1 h).2.1
theorem Rx.Ok.nml {r:Rx} (h:r.Ok):r.nm.length≤100000000:=((Rx.Ok_eq r).1 h).1
mutual
theorem Rx.depth_le:∀ r:Rx,r.depth≤r.size
 | .mk _ _ ks=>by have:=Rx.depths_le ks;simp only [Rx.depth,Rx.size];omega
theorem Rx.depths_le:∀ ks:List Rx,Rx.depths ks≤Rx.sizes ks
 | []=>Nat.le_refl _
 | k::ks=>by have:=Rx.depth_le k;have:=Rx.depths_le ks;simp only [Rx.depths,Rx.sizes];omega
end
theorem Rx.size_pos (r:Rx):1≤r.size:=by rw [Rx.size_eq];omega
theorem Rx.depth_pos (r:Rx):1≤r.depth:=by rw [Rx.depth_eq];omega
def Rx.check (r:Rx):Int:=if 1000<r.size then 3 else if 100<r.depth then 91 else if r.right then 0 else 92

def splitNL:Str→Str×List Str
 | []=>([],[])
 | c::r=>if c.toNat=10 then ([],(splitNL r).1::(splitNL r).2) else (c::(splitNL r).1,(splitNL r).2)
def putRow (l:List Word) (x:Except (Int×Int) (List (List Word))):Except (Int×Int) (List (List Word)) :=
 x.map fun ls=>match l with|[]=>ls|_::_=>l::ls
def rowsOf:Int→List Str→Option (Except (Int×Int) (List (List Word)))
 | _,[]=>some (.ok [])
 | n,s::r=>match toks n (s.length+1) 0 s with
  | none=>none
  | some (.error a)=>some (.error (n,(a:Int)+1))
  | some (.ok l)=>(rowsOf (n+1) r).map (putRow l)
theorem rowsOf_some:∀ (l:List Str) (n:Int),∃ x,rowsOf n l=some x
 | [],n=>⟨_,rfl⟩
 | s::r,n=>by
  obtain ⟨y,hy⟩:=toks_some n (s.length+1) 0 s (by omega)
  obtain ⟨z,hz⟩:=rowsOf_some r (n+1)
  unfold rowsOf
  rw [hy,hz]
  cases y<;>exact ⟨_,rfl⟩
def wordAt (l:List Word) (i:Nat):Str:=match l[i]? with|some w=>w.t|none=>[]
def flat (op:Int):List Rx→List Rx
 | []=>[]
 | r::rs=>(if r.op=op then r.ks else [r])++flat op rs
def join (op:Int) (l:List Rx):Rx :=
 match l with
 | [r]=>r
 | l=>match flat op l with
  | [r]=>r
  | ks=>.mk op [] ks
abbrev PR:=Option (Except (Nat×Int) (Rx×Nat))
def PR.bind (x:PR) (f:Rx→Nat→PR):PR :=
 match x with
 | none=>none
 | some (.error e)=>some (.error e)
 | some (.ok (r,i))=>f r i
def opOf (w:Str):Int:=if w=[42] then 6 else if w=[43] then 7 else if w=[63] then 8 else 0
def starts (w:Str):Bool:=w == [36] || w == [46] || w == [40] || isName w
mutual
def pAlt (l:List Word):Nat→Nat→Nat→PR
 | 0,_,_=>none
 | n+1,o,i=>PR.bind (pSeq l n o i) fun r i=>pAlts l n o i [r]
def pAlts (l:List Word):Nat→Nat→Nat→List Rx→PR
 | 0,_,_,_=>none
 | n+1,o,i,acc=>if wordAt l i=[124] then PR.bind (pSeq l n o (i+1)) fun r i=>pAlts l n o i (acc++[r]) else some (.ok (join 5 acc,i))
def pSeq (l:List Word):Nat→Nat→Nat→PR
 | 0,_,_=>none
 | n+1,o,i=>PR.bind (pRep l n o i) fun r i=>pSeqs l n o i [r]
def pSeqs (l:List Word):Nat→Nat→Nat→List Rx→PR
 | 0,_,_,_=>none
 | n+1,o,i,acc=>if starts (wordAt l i) then PR.bind (pRep l n o i) fun r i=>pSeqs l n o i (acc++[r]) else some (.ok (join 4 acc,i))
def pRep (l:List Word):Nat→Nat→Nat→PR
 | 0,_,_=>none
 | n+1,o,i=>PR.bind (pAtom l n o i) fun r i=>pReps l n i r
def pReps (l:List Word):Nat→Nat→Rx→PR
 | 0,_,_=>none
 | n+1,i,r=>if opOf (wordAt l i)=0 then some (.ok (r,i)) else pReps l n (i+1) (.mk (opOf (wordAt l i)) [] [r])
def pAtom (l:List Word):Nat→Nat→Nat→PR
 | 0,_,_=>none
 | n+1,o,i =>
  if wordAt l i=[46] then some (.ok (.mk 3 [] [],i+1))
  else if wordAt l i=[36] then
   (if isName (wordAt l (i+1)) then some (.ok (.mk 2 (wordAt l (i+1)) [],i+2)) else some (.error (i+1,90)))
  else if wordAt l i=[40] then
   (if 50≤o then some (.error (i,91))
    else if wordAt l (i+1)=[41] then some (.ok (.mk 4 [] [],i+2))
    else PR.bind (pAlt l n (o+1) (i+1)) fun r j=>if wordAt l j=[41] then some (.ok (r,j+1)) else some (.error (j,90)))
  else if isName (wordAt l i) then some (.ok (.mk 1 (wordAt l i) [],i+1))
  else some (.error (i,90))
end
end Go.Vm.P

/- Plain facts of the reader of expressions: it comes to an end;how great what it reads is. -/
namespace Go.Vm.P
mutual
def Rx.Nm:Rx→Prop|.mk op nm ks=>nm.length≤100000000∧(op=5→2≤ks.length)∧Rx.Nms ks
def Rx.Nms:List Rx→Prop|[]=>True|k::ks=>k.Nm∧Rx.Nms ks
end
theorem Rx.len_sizes:∀ ks:List Rx,ks.length≤Rx.sizes ks
 | []=>Nat.le_refl _
 | k::ks=>by have:=Rx.len_sizes ks;have:=Rx.size_pos k;simp only [List.length_cons,Rx.sizes];omega
mutual
theorem Rx.Nm.ok:∀ r:Rx,r.Nm→r.size≤100000000→r.Ok
 | .mk op nm ks,h,hs=>by
  simp only [Rx.size] at hs
  have:=Rx.len_sizes ks
  exact ⟨h.1,by omega,Rx.Nms.ok ks h.2.2 (by omega)⟩
theorem Rx.Nms.ok:∀ ks:List Rx,Rx.Nms ks→Rx.sizes ks≤100000000→Rx.Oks ks
 | [],_,_=>trivial
 | k::ks,h,hs=>by
  simp only [Rx.sizes] at hs
  exact ⟨Rx.Nm.ok k h.1 (by omega),Rx.Nms.ok ks h.2 (by omega)⟩
end
theorem Rx.sizes_append:∀ a b:List Rx,Rx.sizes (a++b)=Rx.sizes a+Rx.sizes b
 | [],b=>by simp [Rx.sizes]
 | k::a,b=>by simp only [List.cons_append,Rx.sizes,Rx.sizes_append a b];omega
theorem Rx.Nms_append:∀ a b:List Rx,Rx.Nms (a++b)↔Rx.Nms a∧Rx.Nms b
 | [],b=>by simp [Rx.Nms]
 | k::a,b=>by simp only [List.cons_append,Rx.Nms,Rx.Nms_append a b,and_assoc]
theorem flat_sizes (op:Int):∀ l,Rx.sizes (flat op l)≤Rx.sizes l
 | []=>Nat.le_refl _
 | r::l=>by
  have:=flat_sizes op l
  simp only [flat,Rx.sizes_append,Rx.sizes]
  split
  ·have:=Rx.size_eq r;omega
  ·simp only [Rx.sizes];omega
theorem Rx.Nm_ks {r:Rx} (h:r.Nm):Rx.Nms r.ks:=by cases r;exact h.2.2
theorem Rx.Nm_alt {r:Rx} (h:r.Nm):r.op=5→2≤r.ks.length:=by cases r;exact h.2.1
theorem flat_Nms (op:Int):∀ l,Rx.Nms l→Rx.Nms (flat op l)
 | [],_=>trivial
 | r::l,h=>by
  simp only [flat,Rx.Nms_append]
  refine ⟨?_,flat_Nms op l h.2⟩
  split
  ·exact Rx.Nm_ks h.1
  ·exact ⟨h.1,trivial⟩
theorem flat_long:∀ l:List Rx,Rx.Nms l→l.length≤(flat 5 l).length
 | [],_=>Nat.le_refl _
 | r::l,h=>by
  have:=flat_long l h.2
  simp only [flat,List.length_append,List.length_cons]
  split
  ·have:=Rx.Nm_alt h.1 (by assumption);omega
  ·simp only [List.length_cons,List.length_nil];omega
theorem two_long {l:List Rx} (h:l≠[]) (hne:∀ r,l≠[r]):2≤l.length:=by
 match l,h,hne with
 | [r],_,hne=>exact absurd rfl (hne r)
 | _::_::_,_,_=>simp
theorem join_size {op:Int} {l:List Rx} (h:l≠[]):(join op l).size+1≤Rx.sizes l+l.length:=by
 unfold join
 split
 ·simp [Rx.sizes]
 ·rename_i hne
  have h2:2≤l.length:=by
   match l,h,hne with
   | [r],_,hne=>exact absurd rfl (hne r)
   | _::_::_,_,_=>simp
  have:=flat_sizes op l
  split
  ·rename_i r hr
   rw [hr] at this
   simp only [Rx.sizes] at this
   omega
  ·simp only [Rx.size];omega
theorem join_Nm {op:Int} {l:List Rx} (hne:l≠[]) (h:Rx.Nms l):(join op l).Nm:=by
 unfold join
 split
 ·exact h.1
 ·rename_i hone
  have:=flat_Nms op l h
  split
  ·rename_i r hr
   rw [hr] at this
   exact this.1
  ·refine ⟨by simp,fun e=>?_,this⟩
   subst e
   have h1:=flat_long l h
   have h2:=two_long hne (fun r e=>hone r e)
   omega
structure Good (L i:Nat) (r:Rx) (j:Nat):Prop where
 lt:i<j
 le:j≤L
 size:r.size+1≤2 * (j - i)
 nm:r.Nm
def Fact (L i:Nat):Except (Nat×Int) (Rx×Nat)→Prop
 | .ok (r,j)=>Good L i r j
 | .error (a,c)=>i≤a∧a≤L∧(c=90∨c=91)
theorem PR.bind_some {x:PR} {f:Rx→Nat→PR} {y:Except (Nat×Int) (Rx×Nat)} (h:PR.bind x f=some y):(∃ e,x=some (.error e)∧y=.error e)∨∃ r i,x=some (.ok (r,i))∧f r i=some y:=by
 match x,h with
 | some (.error e),h=>simp only [PR.bind,Option.some.injEq] at h;exact .inl ⟨e,rfl,h.symm⟩
 | some (.ok (r,i)),h=>exact .inr ⟨r,i,rfl,h⟩
theorem wordAt_in {l:List Word} {i:Nat} (h:wordAt l i≠[]):i<l.length:=by
 unfold wordAt at h
 cases hi:l[i]? with
 | none=>rw [hi] at h;exact absurd rfl h
 | some w=>exact (List.getElem?_eq_some_iff.1 hi).1
theorem wordAt_short {l:List Word} (hw:∀ w,w ∈ l→w.t.length≤100000000) (i:Nat):(wordAt l i).length≤100000000:=by
 unfold wordAt
 cases hi:l[i]? with
 | none=>simp
 | some w=>exact hw w (List.mem_of_getElem? hi)
theorem isName_ne {s:Str} (h:isName s=true):s≠[]:=by rintro rfl;cases h
theorem starts_ne {s:Str} (h:starts s=true):s≠[]:=by rintro rfl;cases h
theorem opOf_ne {s:Str} (h:¬ opOf s=0):s≠[]:=by rintro rfl;exact h rfl
theorem opOf_5 (s:Str):¬ opOf s=5:=by
 unfold opOf
 split
 ·decide
 ·split
  ·decide
  ·split<;>decide
section
variable {l:List Word} (hw:∀ w,w ∈ l→w.t.length≤100000000)
include hw
structure Facts (l:List Word) (n:Nat):Prop where
 alt:∀ o i x,i≤l.length→pAlt l n o i=some x→Fact l.length i x
 alts:∀ o i i0 acc x,i0<i→i≤l.length→acc≠[]→Rx.sizes acc+acc.length≤2 * (i - i0)→Rx.Nms acc→pAlts l n o i acc=some x→Fact l.length i0 x
 seq:∀ o i x,i≤l.length→pSeq l n o i=some x→Fact l.length i x
 seqs:∀ o i i0 acc x,i0<i→i≤l.length→acc≠[]→Rx.sizes acc+acc.length≤2 * (i - i0)→Rx.Nms acc→pSeqs l n o i acc=some x→Fact l.length i0 x
 rep:∀ o i x,i≤l.length→pRep l n o i=some x→Fact l.length i x
 reps:∀ i i0 r x,i0<i→i≤l.length→r.size+1≤2 * (i - i0)→r.Nm→pReps l n i r=some x→Fact l.length i0 x
 atom:∀ o i x,i≤l.length→pAtom l n o i=some x→Fact l.length i x
theorem facts:∀ n,Facts l n
 | 0=>⟨fun _ _ _ _ h=>by simp [pAlt] at h,fun _ _ _ _ _ _ _ _ _ _ h=>by simp [pAlts] at h,fun _ _ _ _ h=>by simp [pSeq] at h,fun _ _ _ _ _ _ _ _ _ _ h=>by simp [pSeqs] at h,fun _ _ _ _ h=>by simp [pRep] at h,
     fun _ _ _ _ _ _ _ _ h=>by simp [pReps] at h,fun _ _ _ _ h=>by simp [pAtom] at h⟩
 | n+1=>by
  have ih:=facts n
  refine ⟨?_, ?_, ?_, ?_, ?_, ?_, ?_⟩
  ·intro o i x hi h
   simp only [pAlt] at h
   rcases PR.bind_some h with ⟨e,h1,rfl⟩|⟨r,j,h1,h2⟩
   ·exact ih.seq o i _ hi h1
   ·have g:Good l.length i r j:=ih.seq o i _ hi h1
    exact ih.alts o j i [r] x g.lt g.le (by simp) (by have:=g.size;simp [Rx.sizes];omega) ⟨g.nm,trivial⟩ h2
  ·intro o i i0 acc x h0 hi hne hs hnm h
   simp only [pAlts] at h
   split at h
   ·rename_i hp
    have hlt:=wordAt_in (l:=l) (i:=i) (by rw [hp];simp)
    rcases PR.bind_some h with ⟨e,h1,rfl⟩|⟨r,j,h1,h2⟩
    ·have:=ih.seq o (i+1) _ (by omega) h1
     exact ⟨by have:=this.1;omega,this.2⟩
    ·have g:Good l.length (i+1) r j:=ih.seq o (i+1) _ (by omega) h1
     have g1:=g.lt;have g2:=g.size
     exact ih.alts o j i0 (acc++[r]) x (by omega) g.le (by simp) (by simp [Rx.sizes_append,Rx.sizes];omega) ((Rx.Nms_append _ _).2 ⟨hnm,g.nm,trivial⟩) h2
   ·cases h
    exact ⟨h0,hi,by have:=join_size (op:=5) hne;omega,join_Nm hne hnm⟩
  ·intro o i x hi h
   simp only [pSeq] at h
   rcases PR.bind_some h with ⟨e,h1,rfl⟩|⟨r,j,h1,h2⟩
   ·exact ih.rep o i _ hi h1
   ·have g:Good l.length i r j:=ih.rep o i _ hi h1
    exact ih.seqs o j i [r] x g.lt g.le (by simp) (by have:=g.size;simp [Rx.sizes];omega) ⟨g.nm,trivial⟩ h2
  ·intro o i i0 acc x h0 hi hne hs hnm h
   simp only [pSeqs] at h
   split at h
   ·rcases PR.bind_some h with ⟨e,h1,rfl⟩|⟨r,j,h1,h2⟩
    ·have:=ih.rep o i _ hi h1
     exact ⟨by have:=this.1;omega,this.2⟩
    ·have g:Good l.length i r j:=ih.rep o i _ hi h1
     have g1:=g.lt;have g2:=g.size
     exact ih.seqs o j i0 (acc++[r]) x (by omega) g.le (by simp) (by simp [Rx.sizes_append,Rx.sizes];omega) ((Rx.Nms_append _ _).2 ⟨hnm,g.nm,trivial⟩) h2
   ·cases h
    exact ⟨h0,hi,by have:=join_size (op:=4) hne;omega,join_Nm hne hnm⟩
  ·intro o i x hi h
   simp only [pRep] at h
   rcases PR.bind_some h with ⟨e,h1,rfl⟩|⟨r,j,h1,h2⟩
   ·exact ih.atom o i _ hi h1
   ·have g:Good l.length i r j:=ih.atom o i _ hi h1
    exact ih.reps j i r x g.lt g.le g.size g.nm h2
  ·intro i i0 r x h0 hi hs hnm h
   simp only [pReps] at h
   split at h
   ·cases h
    exact ⟨h0,hi,hs,hnm⟩
   ·rename_i hp
    have hlt:=wordAt_in (l:=l) (i:=i) (opOf_ne hp)
    exact ih.reps (i+1) i0 _ x (by omega) (by omega) (by simp only [Rx.size,Rx.sizes];omega) (show Rx.Nm (.mk (opOf (wordAt l i)) [] [r]) from ⟨by simp,fun e=>absurd e (opOf_5 _),hnm,trivial⟩) h
  ·intro o i x hi h
   simp only [pAtom] at h
   split at h
   ·rename_i hp
    have hlt:=wordAt_in (l:=l) (i:=i) (by rw [hp];simp)
    cases h
    exact ⟨by omega,by omega,by simp only [Rx.size,Rx.sizes];omega,⟨by simp,fun e=>absurd e (by decide),trivial⟩⟩
   ·split at h
    ·rename_i hp
     have hlt:=wordAt_in (l:=l) (i:=i) (by rw [hp];simp)
     split at h
     ·rename_i hn
      have hlt2:=wordAt_in (l:=l) (i:=i+1) (isName_ne hn)
      cases h
      exact ⟨by omega,by omega,by simp only [Rx.size,Rx.sizes];omega,⟨wordAt_short hw _,fun e=>absurd e (by decide),trivial⟩⟩
     ·cases h
      exact ⟨by omega,by omega,.inl rfl⟩
    ·split at h
     ·rename_i hp
      have hlt:=wordAt_in (l:=l) (i:=i) (by rw [hp];simp)
      split at h
      ·cases h
       exact ⟨by omega,by omega,.inr rfl⟩
      ·split at h
       ·rename_i hp2
        have hlt2:=wordAt_in (l:=l) (i:=i+1) (by rw [hp2];simp)
        cases h
        exact ⟨by omega,by omega,by simp only [Rx.size,Rx.sizes];omega,⟨by simp,fun e=>absurd e (by decide),trivial⟩⟩
       ·rcases PR.bind_some h with ⟨e,h1,rfl⟩|⟨r,j,h1,h2⟩
        ·have:=ih.alt (o+1) (i+1) _ (by omega) h1
         exact ⟨by have:=this.1;omega,this.2⟩
        ·have g:Good l.length (i+1) r j:=ih.alt (o+1) (i+1) _ (by omega) h1
         have g1:=g.lt;have g2:=g.size;have g3:=g.le
         split at h2
         ·rename_i hp3
          have hlt3:=wordAt_in (l:=l) (i:=j) (by rw [hp3];simp)
          cases h2
          exact ⟨by omega,by omega,by omega,g.nm⟩
         ·cases h2
          exact ⟨by omega,by omega,.inl rfl⟩
     ·split at h
      ·rename_i hn
       have hlt:=wordAt_in (l:=l) (i:=i) (isName_ne hn)
       cases h
       exact ⟨by omega,by omega,by simp only [Rx.size,Rx.sizes];omega,⟨wordAt_short hw _,fun e=>absurd e (by decide),trivial⟩⟩
      ·cases h
       exact ⟨by omega,by omega,.inl rfl⟩
structure Ends (l:List Word) (n:Nat):Prop where
 alt:∀ o i,i≤l.length→8 * (l.length - i)+4≤n→∃ x,pAlt l n o i=some x
 alts:∀ o i acc,i≤l.length→8 * (l.length - i)+1≤n→∃ x,pAlts l n o i acc=some x
 seq:∀ o i,i≤l.length→8 * (l.length - i)+3≤n→∃ x,pSeq l n o i=some x
 seqs:∀ o i acc,i≤l.length→8 * (l.length - i)+3≤n→∃ x,pSeqs l n o i acc=some x
 rep:∀ o i,i≤l.length→8 * (l.length - i)+2≤n→∃ x,pRep l n o i=some x
 reps:∀ i r,i≤l.length→(l.length - i)+1≤n→∃ x,pReps l n i r=some x
 atom:∀ o i,i≤l.length→8 * (l.length - i)+1≤n→∃ x,pAtom l n o i=some x
omit hw in
theorem bind_ends {x:PR} {f:Rx→Nat→PR} {y:Except (Nat×Int) (Rx×Nat)} (h:x=some y) (k:∀ r j,y=.ok (r,j)→∃ z,f r j=some z):∃ z,PR.bind x f=some z:=by
 subst h
 match y,k with
 | .error e,_=>exact ⟨_,rfl⟩
 | .ok (r,j),k=>exact k r j rfl
theorem ends:∀ n,Ends l n
 | 0=>⟨fun _ _ _ h=>by omega,fun _ _ _ _ h=>by omega,fun _ _ _ h=>by omega,fun _ _ _ _ h=>by omega,fun _ _ _ h=>by omega,fun _ _ _ h=>by omega,fun _ _ _ h=>by omega⟩
 | n+1=>by
  have ih:=ends n
  have fc:=facts hw n
  refine ⟨?_, ?_, ?_, ?_, ?_, ?_, ?_⟩
  ·intro o i hi h
   simp only [pAlt]
   obtain ⟨y,hy⟩:=ih.seq o i hi (by omega)
   refine bind_ends hy fun r j e=>?_
   have g:Good l.length i r j:=by have:=fc.seq o i _ hi hy;rwa [e] at this
   have:=g.lt;have:=g.le
   exact ih.alts o j [r] g.le (by omega)
  ·intro o i acc hi h
   simp only [pAlts]
   split
   ·rename_i hp
    have hlt:=wordAt_in (l:=l) (i:=i) (by rw [hp];simp)
    obtain ⟨y,hy⟩:=ih.seq o (i+1) (by omega) (by omega)
    refine bind_ends hy fun r j e=>?_
    have g:Good l.length (i+1) r j:=by have:=fc.seq o (i+1) _ (by omega) hy;rwa [e] at this
    have:=g.lt;have:=g.le
    exact ih.alts o j (acc++[r]) g.le (by omega)
   ·exact ⟨_,rfl⟩
  ·intro o i hi h
   simp only [pSeq]
   obtain ⟨y,hy⟩:=ih.rep o i hi (by omega)
   refine bind_ends hy fun r j e=>?_
   have g:Good l.length i r j:=by have:=fc.rep o i _ hi hy;rwa [e] at this
   have:=g.lt;have:=g.le
   exact ih.seqs o j [r] g.le (by omega)
  ·intro o i acc hi h
   simp only [pSeqs]
   split
   ·rename_i hp
    have hlt:=wordAt_in (l:=l) (i:=i) (starts_ne hp)
    obtain ⟨y,hy⟩:=ih.rep o i hi (by omega)
    refine bind_ends hy fun r j e=>?_
    have g:Good l.length i r j:=by have:=fc.rep o i _ hi hy;rwa [e] at this
    have:=g.lt;have:=g.le
    exact ih.seqs o j (acc++[r]) g.le (by omega)
   ·exact ⟨_,rfl⟩
  ·intro o i hi h
   simp only [pRep]
   obtain ⟨y,hy⟩:=ih.atom o i hi (by omega)
   refine bind_ends hy fun r j e=>?_
   have g:Good l.length i r j:=by have:=fc.atom o i _ hi hy;rwa [e] at this
   have:=g.lt;have:=g.le
   exact ih.reps j r g.le (by omega)
  ·intro i r hi h
   simp only [pReps]
   split
   ·exact ⟨_,rfl⟩
   ·rename_i hp
    have hlt:=wordAt_in (l:=l) (i:=i) (opOf_ne hp)
    exact ih.reps (i+1) _ (by omega) (by omega)
  ·intro o i hi h
   simp only [pAtom]
   split
   ·exact ⟨_,rfl⟩
   ·split
    ·split<;>exact ⟨_,rfl⟩
    ·split
     ·rename_i hp
      have hlt:=wordAt_in (l:=l) (i:=i) (by rw [hp];simp)
      split
      ·exact ⟨_,rfl⟩
      ·split
       ·exact ⟨_,rfl⟩
       ·obtain ⟨y,hy⟩:=ih.alt (o+1) (i+1) (by omega) (by omega)
        refine bind_ends hy fun r j e=>?_
        split<;>exact ⟨_,rfl⟩
     ·split<;>exact ⟨_,rfl⟩
end
end Go.Vm.P
namespace Go.Vm.P
def Rx.no:Rx:=.mk 0 [] []
end Go.Vm.P

/- The words of a text: how many,where;what a text is parsed as. -/
namespace Go.Vm.P
theorem toks_ok (n:Int):∀ (f a:Nat) (s:Str) (l:List Word),toks n f a s=some (.ok l) →
  l.length≤s.length∧∀ w,w ∈ l→w.line=n∧(0≤w.col∧w.col+w.t.length≤a+s.length+1∧w.t.length≤s.length∧w.t≠[])
 | 0,_,_,_,h=>by cases h
 | f+1,a,[],l,h=>by cases h;simp
 | f+1,a,c::r,l,h=>by
  rw [toks_cons] at h
  have hw:=wlen_le (c::r)
  simp only [List.length_cons] at hw ⊢
  split at h
  ·cases h;simp
  ·split at h
   ·obtain ⟨h1,h2⟩:=toks_ok n f _ r l h
    refine ⟨by omega,fun w hm=>?_⟩
    obtain ⟨g1,g2,g3,g4,g5⟩:=h2 w hm
    exact ⟨g1,g2,by omega,by omega,g5⟩
   ·split at h
    ·cases h
    ·rename_i hz
     simp only [Option.map_eq_some_iff] at h
     obtain ⟨y,hy,h2⟩:=h
     cases y with
     | error e'=>cases h2
     | ok l' =>
      cases h2
      obtain ⟨h1,h3⟩:=toks_ok n f _ _ l' hy
      simp only [List.length_drop,List.length_cons] at h1 h3
      refine ⟨by simp only [List.length_cons];omega,fun w hm=>?_⟩
      rcases List.mem_cons.1 hm with rfl|hm
      ·refine ⟨rfl, ?_, ?_, ?_, ?_⟩
       ·simp only;omega
       ·simp only [List.length_take,List.length_cons];omega
       ·simp only [List.length_take,List.length_cons];omega
       ·intro e
        have:=congrArg List.length e
        simp only [List.length_take,List.length_cons,List.length_nil] at this
        omega
      ·obtain ⟨g1,g2,g3,g4,g5⟩:=h3 w hm
       exact ⟨g1,g2,by omega,by omega,g5⟩
def lens:List Str→Nat|[]=>0|s::r=>s.length+lens r
theorem splitNL_lens:∀ s:Str,(splitNL s).1.length+lens (splitNL s).2≤s.length∧(splitNL s).2.length≤s.length
 | []=>by simp [splitNL,lens]
 | c::r=>by
  have:=splitNL_lens r
  unfold splitNL
  split
  ·simp only [lens,List.length_cons,List.length_nil];omega
  ·simp only [List.length_cons];omega
def WordOk (M:Nat) (w:Word):Prop:=(0≤w.line∧w.line≤M)∧0≤w.col∧w.col+w.t.length≤M∧w.t.length≤M∧w.t≠[]
theorem rowsOf_ok:∀ (ls:List Str) (n:Int) (rows:List (List Word)),rowsOf n ls=some (.ok rows)→∀ M:Nat,lens ls+1≤M→0≤n→n+ls.length≤M →
  rows.flatten.length≤lens ls∧rows.length≤ls.length∧∀ w,w ∈ rows.flatten→WordOk M w
 | [],n,rows,h,M,hM,h0,hn=>by cases h;simp [lens]
 | s::r,n,rows,h,M,hM,h0,hn=>by
  unfold rowsOf at h
  simp only [lens,List.length_cons] at hM hn ⊢
  split at h
  ·cases h
  ·cases h
  ·rename_i l hl
   simp only [Option.map_eq_some_iff] at h
   obtain ⟨y,hy,h2⟩:=h
   obtain ⟨k1,k2⟩:=toks_ok n _ _ _ _ hl
   cases y with
   | error e=>cases h2
   | ok ls =>
    obtain ⟨g1,g2,g3⟩:=rowsOf_ok r (n+1) ls hy M (by omega) (by omega) (by omega)
    have hk:∀ w,w ∈ l→WordOk M w:=fun w hm=>by
     obtain ⟨a1,a2,a3,a4,a5⟩:=k2 w hm
     exact ⟨by omega,by omega,by omega,by omega,a5⟩
    simp only [putRow,Except.map,Except.ok.injEq] at h2
    subst h2
    cases l with
    | nil =>
     dsimp only
     exact ⟨by simp only [List.length_nil] at k1;omega,by omega,g3⟩
    | cons w0 l0 =>
     dsimp only
     refine ⟨by simp only [List.flatten_cons,List.length_append];omega,by simp only [List.length_cons];omega,fun w hm=>?_⟩
     rw [List.flatten_cons] at hm
     rcases List.mem_append.1 hm with hm|hm
     ·exact hk w hm
     ·exact g3 w hm
def textP (s:Str) (x:Except (Int×Int) (List (List Word))):Prop:=rowsOf 1 ((splitNL s).1::(splitNL s).2)=some x
theorem textP_ok {s:Str} {rows:List (List Word)} (h:textP s (.ok rows)):rows.flatten.length≤s.length∧rows.length≤s.length+1∧∀ w,w ∈ rows.flatten→WordOk (s.length+2) w:=by
 have h1:=splitNL_lens s
 have:=rowsOf_ok _ _ _ h (s.length+2) (by simp only [lens];omega) (by omega) (by simp only [List.length_cons];omega)
 simp only [lens,List.length_cons] at this
 exact ⟨by omega,by omega,this.2.2⟩
theorem textP_some (s:Str):∃ x,textP s x:=rowsOf_some _ _
mutual
def Rx.same:Rx→Rx→Bool|.mk o n ks,r=>decide (o=r.op) && decide (n=r.nm) && Rx.sames ks r.ks
def Rx.sames:List Rx→List Rx→Bool
 | [],[]=>true
 | k::ks,k'::ks'=>k.same k' && Rx.sames ks ks'
 | _,_=>false
end
theorem Rx.same_eq (a b:Rx):a.same b=(decide (a.op=b.op) && decide (a.nm=b.nm) && Rx.sames a.ks b.ks):=by cases a;rfl
theorem Rx.sames_len:∀ {a b:List Rx},a.length≠b.length→Rx.sames a b=false
 | [],[],h=>absurd rfl h
 | [],_::_,_=>by unfold Rx.sames;rfl
 | _::_,[],_=>by unfold Rx.sames;rfl
 | a::l,b::m,h=>by
  unfold Rx.sames
  rw [Rx.sames_len (a:=l) (b:=m) (fun e=>h (by simp [e]))]
  simp
mutual
theorem Rx.same_refl:∀ r:Rx,r.same r=true
 | .mk o n ks=>by
  unfold Rx.same
  have:=Rx.sames_refl ks
  simp [Rx.op,Rx.nm,Rx.ks,this]
theorem Rx.sames_refl:∀ l:List Rx,Rx.sames l l=true
 | []=>by unfold Rx.sames;rfl
 | k::ks=>by
  unfold Rx.sames
  rw [Rx.same_refl k,Rx.sames_refl ks];rfl
end
mutual
theorem Rx.same_iff:∀ a b:Rx,a.same b=true→a=b
 | .mk o n ks,.mk o' n' ks',h=>by
  unfold Rx.same at h
  simp only [Rx.op,Rx.nm,Rx.ks,Bool.and_eq_true,decide_eq_true_eq] at h
  rw [of_decide_eq_true h.1.1,of_decide_eq_true h.1.2,Rx.sames_iff ks ks' h.2]
theorem Rx.sames_iff:∀ a b:List Rx,Rx.sames a b=true→a=b
 | [],[],_=>rfl
 | [],_::_,h=>by unfold Rx.sames at h;cases h
 | _::_,[],h=>by unfold Rx.sames at h;cases h
 | a::l,b::m,h=>by
  unfold Rx.sames at h
  simp only [Bool.and_eq_true] at h
  rw [Rx.same_iff a b h.1,Rx.sames_iff l m h.2]
end
end Go.Vm.P

/- Invariants: what a line of words is read as;no program in sight. -/
namespace Go.Vm.P
structure Iv where
 nm:Str
 pk:Str
 ing:List Str
 hops:Int
 cmp:Int
 cnt:Int
 path:Rx
def cubeB (c:UInt8):Bool:=decide (c.toNat=48∨c.toNat=49∨c.toNat=120)
def isCube (s:Str):Bool:=s.all cubeB && decide (s≠[]) && decide (s.length≤128)
def signOf (w:Str):Int:=if w=[61,61] then 1 else if w=[60,61] then 2 else if w=[62,61] then 3 else 0
def signP (l:List Word) (i:Nat):Except (Nat×Int) (Int×Nat):=if signOf (wordAt l i)=0 then .error (i,120) else .ok (signOf (wordAt l i),i+1)
abbrev wInvariant:Str:=[105,110,118,97,114,105,97,110,116]
abbrev wPackets:Str:=[112,97,99,107,101,116,115]
abbrev wFrom:Str:=[102,114,111,109]
abbrev wHops:Str:=[104,111,112,115]
abbrev wCount:Str:=[99,111,117,110,116]
abbrev wPath:Str:=[112,97,116,104]
end Go.Vm.P

/- Invariants: steps of a line's reader,one by one. -/
namespace Go.Vm.P
variable {l:List Word} {i:Nat}
section
variable (nm pk:Str) (ing:List Str) (hops cmp cnt:Int)
end
end Go.Vm.P

/- Invariants: how far the readers go. -/
namespace Go.Vm.P
end Go.Vm.P

/- Invariants: which may be. -/
namespace Go.Vm.P
def lessO:Option Str→Str→Bool
 | none,_=>true
 | some y,x=>decide (y<x)
def risT:Option Str→List Str→Bool
 | _,[]=>true
 | p,x::t=>isName x && lessO p x && risT (some x) t
def ivRight (v:Iv):Bool:=isName v.nm && isCube v.pk && decide (1≤v.ing.length∧v.ing.length≤256) && decide (0≤v.hops∧v.hops≤64) && decide (1≤v.cmp∧v.cmp≤3) && decide (0≤v.cnt∧v.cnt≤62) && risT none v.ing
def ivForm (v:Iv):Int:=if ivRight v=true then v.path.check else 120
theorem risT_cons (p:Option Str) (x:Str) (t:List Str):risT p (x::t)=(isName x && lessO p x && risT (some x) t):=rfl
end Go.Vm.P

/- Words said as a text are read as the same words;no program in sight. -/
namespace Go.Vm.P
def isWord (s:Str):Bool:=decide (s≠[]) && decide (wlen s=s.length)
def glued (a b:Str):Bool:=!decide (wlen (a++b)=a.length)
def sayF:Str→List Str→Str
 | _,[]=>[]
 | p,w::r=>(if glued p w then 32::w else w)++sayF w r
def sayW:List Str→Str
 | []=>[]
 | w::r=>w++sayF w r
theorem isWord_iff {s:Str}:isWord s=true↔s≠[]∧wlen s=s.length:=by simp [isWord]
theorem wlen_c (c:UInt8) (r:Str):wlen (c::r)=if decide (1≤r.length) && pair ((c::r).take 2) then 2 else if single c then 1 else run (c::r):=rfl
theorem letter32:letter 32=false:=by decide
theorem run_blank:∀ (a r:Str),run a=a.length→run (a++32::r)=a.length
 | [],r,h=>by simp [run,letter32]
 | c::a,r,h=>by
  unfold run at h
  simp only [List.cons_append,List.length_cons] at h ⊢
  unfold run
  split at h
  ·rename_i hc
   have ih:=run_blank a r (by omega)
   have e:[45,62].isPrefixOf (c::(a++32::r))=[45,62].isPrefixOf (c::a):=by
    cases a with
    | nil=>simp [List.isPrefixOf]
    | cons d a=>simp [List.isPrefixOf]
   rw [e,if_pos hc,ih]
  ·omega
theorem run_more:∀ (a b r:Str),b≠[]→run (a++b)=a.length→run (a++(b++r))=a.length
 | [],b,r,hb,h=>by
  simp only [List.nil_append,List.length_nil] at h ⊢
  cases b with
  | nil=>exact absurd rfl hb
  | cons c b =>
   rw [List.cons_append]
   unfold run at h ⊢
   split at h
   ·omega
   ·rename_i hc
    have hc':¬ (letter c && !([45,62].isPrefixOf (c::(b++r))))=true:=by
     intro h2
     apply hc
     simp only [Bool.and_eq_true,Bool.not_eq_true'] at h2 ⊢
     refine ⟨h2.1, ?_⟩
     have h3:=h2.2
     cases b with
     | nil=>simp [List.isPrefixOf]
     | cons d b=>simpa [List.isPrefixOf] using h3
    rw [if_neg hc']
 | c::a,b,r,hb,h=>by
  simp only [List.cons_append,List.length_cons] at h ⊢
  unfold run at h ⊢
  split at h
  ·rename_i hc
   have ih:=run_more a b r hb (by omega)
   have e:[45,62].isPrefixOf (c::(a++(b++r)))=[45,62].isPrefixOf (c::(a++b)):=by
    cases a with
    | nil=>cases b with
     | nil=>exact absurd rfl hb
     | cons d b=>simp [List.isPrefixOf]
    | cons d a=>simp [List.isPrefixOf]
   rw [e,if_pos hc,ih]
  ·omega
theorem take2 (c d:UInt8) (s:Str):(c::d::s).take 2=[c,d]:=rfl
theorem pair_blank (c:UInt8):pair [c,32]=false:=by simp [pair]
theorem wlen_blank {a:Str} (r:Str) (h:isWord a=true):wlen (a++32::r)=a.length:=by
 obtain ⟨h0,h1⟩:=isWord_iff.1 h
 cases a with
 | nil=>exact absurd rfl h0
 | cons c a =>
  cases a with
  | nil =>
   simp only [List.cons_append,List.nil_append,List.length_cons,List.length_nil] at h1 ⊢
   rw [wlen_c] at h1 ⊢
   rw [take2,pair_blank]
   simp only [List.length_nil,List.length_cons,Bool.and_false,Bool.false_eq_true,if_false,Nat.reduceLeDiff,decide_false,Bool.false_and] at h1 ⊢
   split at h1
   ·rename_i hs;rw [if_pos hs]
   ·rename_i hs
    rw [if_neg hs]
    exact run_blank [c] r h1
  | cons d a =>
   simp only [List.cons_append] at h1 ⊢
   rw [wlen_c] at h1 ⊢
   rw [take2] at h1 ⊢
   have e1:decide (1≤(d::a).length)=true:=decide_eq_true (by simp)
   have e2:decide (1≤(d::(a++32::r)).length)=true:=decide_eq_true (by simp)
   rw [e1] at h1
   rw [e2]
   split at h1
   ·rename_i hs;rw [if_pos hs];exact h1
   ·rename_i hs
    rw [if_neg hs]
    split at h1
    ·rename_i hs2;rw [if_pos hs2];exact h1
    ·rename_i hs2
     rw [if_neg hs2]
     exact run_blank (c::d::a) r h1
theorem wlen_more {a b:Str} (r:Str) (ha:a≠[]) (hb:b≠[]) (h:wlen (a++b)=a.length):wlen (a++(b++r))=a.length:=by
 cases a with
 | nil=>exact absurd rfl ha
 | cons c a =>
  have ht:((c::a)++(b++r)).take 2=((c::a)++b).take 2:=by
   cases a with
   | nil=>cases b with
    | nil=>exact absurd rfl hb
    | cons d b=>rfl
   | cons d a=>rfl
  have hl:1≤(a++b).length:=by
   rw [List.length_append]
   cases b with
   | nil=>exact absurd rfl hb
   | cons d b=>simp only [List.length_cons];omega
  simp only [List.cons_append] at h ht ⊢
  rw [wlen_c] at h ⊢
  have e1:decide (1≤(a++b).length)=true:=decide_eq_true hl
  have e2:decide (1≤(a++(b++r)).length)=true:=decide_eq_true (by simp only [List.length_append] at hl ⊢;omega)
  rw [e1] at h
  rw [e2,ht]
  split at h
  ·rename_i hs;rw [if_pos hs];exact h
  ·rename_i hs
   rw [if_neg hs]
   split at h
   ·rename_i hs2;rw [if_pos hs2];exact h
   ·rename_i hs2
    rw [if_neg hs2]
    exact run_more (c::a) b r hb h
theorem word_head {c:UInt8} {s:Str} (h:0<wlen (c::s)):c.toNat≠35∧c.toNat≠32∧c.toNat≠9:=by
 have key:∀ d:UInt8,(d=35∨d=32∨d=9)→wlen (d::s)=0:=by
  intro d hd
  have hl:letter d=false:=by rcases hd with rfl|rfl|rfl<;>decide
  have hs:single d=false:=by rcases hd with rfl|rfl|rfl<;>decide
  have hp:pair ((d::s).take 2)=false:=by
   cases s with
   | nil=>simp [pair]
   | cons e s =>
    rw [take2]
    rcases hd with rfl|rfl|rfl<;>simp [pair]
  rw [wlen_c,hp,hs]
  simp [run,hl]
 refine ⟨fun e=>?_,fun e=>?_,fun e=>?_⟩
 ·have:=key c (.inl (UInt8.toNat_inj.1 e));omega
 ·have:=key c (.inr (.inl (UInt8.toNat_inj.1 e)));omega
 ·have:=key c (.inr (.inr (UInt8.toNat_inj.1 e)));omega
theorem toks_word (n:Int) (f a:Nat) {w:Str} (r:Str) (hw:w≠[]) (h:wlen (w++r)=w.length) :
  toks n (f+1) a (w++r)=(toks n f (a+w.length) r).map fun x=>x.map fun l=>⟨w,n,a+1⟩::l:=by
 cases w with
 | nil=>exact absurd rfl hw
 | cons c w =>
  have hh:=word_head (c:=c) (s:=w++r) (by rw [← List.cons_append,h];simp)
  rw [List.cons_append] at h ⊢
  rw [toks_cons,if_neg hh.1,if_neg (by omega),if_neg (by rw [h];simp),h]
  have e1:(c::(w++r)).take (c::w).length=c::w:=by rw [← List.cons_append];exact List.take_left ..
  have e2:(c::(w++r)).drop (c::w).length=r:=by rw [← List.cons_append];exact List.drop_left ..
  rw [e1,e2]
theorem toks_say (n:Int):∀ (r:List Str) (w:Str) (f a:Nat),(∀ x,x ∈ w::r→isWord x=true)→(w++sayF w r).length<f →
  ∃ l,toks n f a (w++sayF w r)=some (.ok l)∧l.map Word.t=w::r
 | [],w,f,a,hw,hf=>by
  obtain ⟨h0,h1⟩:=isWord_iff.1 (hw w (by simp))
  simp only [sayF] at hf ⊢
  obtain ⟨f,rfl⟩:∃ g,f=g+1:=⟨f - 1,by omega⟩
  rw [toks_word n f a [] h0 (by simpa using h1)]
  have hpos:0<w.length:=List.length_pos_iff.2 h0
  simp only [List.append_nil] at hf
  obtain ⟨f,rfl⟩:∃ g,f=g+1:=⟨f - 1,by omega⟩
  exact ⟨[⟨w,n,a+1⟩],rfl,rfl⟩
 | x::r,w,f,a,hw,hf=>by
  have hww:=hw w (by simp)
  obtain ⟨h0,h1⟩:=isWord_iff.1 hww
  obtain ⟨g0,g1⟩:=isWord_iff.1 (hw x (by simp))
  have hpos:0<w.length:=List.length_pos_iff.2 h0
  have hwr:∀ y,y ∈ x::r→isWord y=true:=fun y hy=>hw y (List.mem_cons_of_mem _ hy)
  obtain ⟨f,rfl⟩:∃ g,f=g+1:=⟨f - 1,by omega⟩
  unfold sayF at hf ⊢
  by_cases hg:glued w x=true
  ·rw [if_pos hg] at hf ⊢
   rw [List.cons_append] at hf ⊢
   rw [toks_word n f a _ h0 (wlen_blank _ hww)]
   simp only [List.length_append,List.length_cons] at hf
   obtain ⟨f,rfl⟩:∃ g,f=g+1:=⟨f - 1,by omega⟩
   obtain ⟨l,hl,hl2⟩:=toks_say n r x f (a+w.length+1) hwr (by simp only [List.length_append];omega)
   refine ⟨⟨w,n,a+1⟩::l, ?_,by simp [hl2]⟩
   rw [toks_cons,if_neg (by decide),if_pos (.inl (by decide)),hl]
   rfl
  ·rw [if_neg hg] at hf ⊢
   have hgl:wlen (w++x)=w.length:=by simpa [glued] using hg
   rw [toks_word n f a _ h0 (wlen_more _ h0 g0 hgl)]
   simp only [List.length_append] at hf
   obtain ⟨l,hl,hl2⟩:=toks_say n r x f (a+w.length) hwr (by simp only [List.length_append];omega)
   refine ⟨⟨w,n,a+1⟩::l, ?_,by simp [hl2]⟩
   rw [hl]
   rfl
theorem run_letters:∀ s:Str,run s=s.length→∀ c,c ∈ s→letter c=true
 | [],_,c,hc=>by cases hc
 | d::s,h,c,hc=>by
  unfold run at h
  split at h
  ·rename_i hd
   simp only [List.length_cons] at h
   rcases List.mem_cons.1 hc with rfl|hc
   ·simp only [Bool.and_eq_true] at hd;exact hd.1
   ·exact run_letters s (by omega) c hc
  ·simp at h
theorem word_nl {s:Str} (h:isWord s=true):∀ c,c ∈ s→c.toNat≠10:=by
 obtain ⟨h0,h1⟩:=isWord_iff.1 h
 cases s with
 | nil=>exact absurd rfl h0
 | cons d s =>
  have sub:∀ c:UInt8,c=10→letter c=false∧single c=false:=by rintro c rfl;decide
  intro c hc e
  have e10:c=10:=UInt8.toNat_inj.1 e
  obtain ⟨s1,s2⟩:=sub c e10
  rw [wlen_c] at h1
  split at h1
  ·rename_i hp
   simp only [Bool.and_eq_true,decide_eq_true_eq] at hp
   simp only [List.length_cons] at h1
   have hl:s.length=1:=by omega
   obtain ⟨x,rfl⟩:=List.length_eq_one_iff.1 hl
   have hp2:=hp.2
   rw [take2] at hp2
   subst e10
   simp only [List.mem_cons,List.not_mem_nil,or_false] at hc
   rcases hc with hc|hc<;>(rw [← hc] at hp2;simp [pair] at hp2)
  ·split at h1
   ·rename_i hs
    simp only [List.length_cons] at h1
    have:s=[]:=List.eq_nil_of_length_eq_zero (by omega)
    subst this
    simp only [List.mem_cons,List.not_mem_nil,or_false] at hc
    rw [hc] at s2;rw [s2] at hs;cases hs
   ·have:=run_letters _ h1 c hc
    rw [s1] at this;cases this
theorem sayF_nl:∀ (r:List Str) (w:Str),(∀ x,x ∈ r→isWord x=true)→∀ c,c ∈ sayF w r→c.toNat≠10
 | [],w,h,c,hc=>by cases hc
 | x::r,w,h,c,hc=>by
  unfold sayF at hc
  rcases List.mem_append.1 hc with hc|hc
  ·split at hc
   ·rcases List.mem_cons.1 hc with rfl|hc
    ·decide
    ·exact word_nl (h x (by simp)) c hc
   ·exact word_nl (h x (by simp)) c hc
  ·exact sayF_nl r x (fun y hy=>h y (List.mem_cons_of_mem _ hy)) c hc
theorem sayW_nl {l:List Str} (h:∀ x,x ∈ l→isWord x=true):∀ c,c ∈ sayW l→c.toNat≠10:=by
 cases l with
 | nil=>intro c hc;cases hc
 | cons w r =>
  intro c hc
  rcases List.mem_append.1 hc with hc|hc
  ·exact word_nl (h w (by simp)) c hc
  ·exact sayF_nl r w (fun y hy=>h y (List.mem_cons_of_mem _ hy)) c hc
theorem splitNL_no:∀ s:Str,(∀ c,c ∈ s→c.toNat≠10)→splitNL s=(s,[])
 | [],_=>rfl
 | c::r,h=>by
  unfold splitNL
  rw [if_neg (h c (by simp)),splitNL_no r fun d hd=>h d (List.mem_cons_of_mem _ hd)]
theorem textP_line {s:Str} (hn:∀ c,c ∈ s→c.toNat≠10) {w:Word} {l:List Word} (h:toks 1 (s.length+1) 0 s=some (.ok (w::l))):textP s (.ok [w::l]):=by
 unfold textP
 rw [splitNL_no s hn]
 unfold rowsOf
 rw [h]
 rfl
theorem textP_say {l:List Str} (h:∀ x,x ∈ l→isWord x=true) (hne:l≠[]):∃ ws,textP (sayW l) (.ok [ws])∧ws.map Word.t=l:=by
 cases l with
 | nil=>exact absurd rfl hne
 | cons w r =>
  obtain ⟨ws,h1,h2⟩:=toks_say 1 r w ((w++sayF w r).length+1) 0 h (by omega)
  cases ws with
  | nil=>cases h2
  | cons v ws=>exact ⟨v::ws,textP_line (sayW_nl h) h1,h2⟩
theorem toks_one {w:Str} (n:Int) (h:isWord w=true):toks n (w.length+1) 0 w=some (.ok [⟨w,n,1⟩]):=by
 obtain ⟨h0,h1⟩:=isWord_iff.1 h
 have hpos:0<w.length:=List.length_pos_iff.2 h0
 have:=toks_word n w.length 0 [] h0 (by simpa using h1)
 rw [List.append_nil] at this
 rw [this]
 obtain ⟨f,hf⟩:∃ g,w.length=g+1:=⟨w.length - 1,by omega⟩
 rw [hf]
 rfl
def areTwo (a b:Str) (x:Except Nat (List Word)):Bool :=
 match x with
 | .ok [v,w]=>decide (v.t=a) && decide (w.t=b)
 | _=>false
theorem toks_two {a b:Str} (n:Int) (ha:isWord a=true) (hb:isWord b=true) {x:Except Nat (List Word)} (hx:toks n ((a++b).length+1) 0 (a++b)=some x):areTwo a b x=!glued a b:=by
 obtain ⟨h0,h1⟩:=isWord_iff.1 ha
 obtain ⟨g0,g1⟩:=isWord_iff.1 hb
 have hap:0<a.length:=List.length_pos_iff.2 h0
 have hbp:0<b.length:=List.length_pos_iff.2 g0
 by_cases hg:glued a b=true
 ·rw [hg]
  have hne:¬ wlen (a++b)=a.length:=by simpa [glued] using hg
  cases a with
  | nil=>exact absurd rfl h0
  | cons c a =>
   rw [List.cons_append] at hx hne
   have hh:c.toNat≠35∧c.toNat≠32∧c.toNat≠9:=word_head (s:=a) (by omega)
   rw [toks_cons,if_neg hh.1,if_neg (by omega)] at hx
   split at hx
   ·cases hx;rfl
   ·rename_i hz
    simp only [Option.map_eq_some_iff] at hx
    obtain ⟨y,hy,rfl⟩:=hx
    have hlen:∀ v:Word,v.t=(c::(a++b)).take (wlen (c::(a++b)))→¬ v.t=c::a:=by
     intro v hv e
     have hwl:=wlen_le (c::(a++b))
     have:=congrArg List.length (hv.symm.trans e)
     rw [List.length_take] at this
     simp only [List.length_cons] at this hne hwl
     omega
    cases y with
    | error e=>rfl
    | ok l =>
     simp only [Except.map]
     unfold areTwo
     split
     ·rename_i v w e
      cases e
      have:=hlen ⟨_,n,0+1⟩ rfl
      simp only at this
      simp [this]
     ·rfl
 ·have hgf:glued a b=false:=by simpa using hg
  rw [hgf]
  have hgl:wlen (a++b)=a.length:=by simpa [glued] using hg
  rw [toks_word n _ 0 b h0 hgl] at hx
  have h2:toks n (a++b).length (0+a.length) b=some (.ok [⟨b,n,(0+a.length:Nat)+1⟩]):=by
   obtain ⟨f,hf⟩:∃ g,(a++b).length=g+1+1:=⟨(a++b).length - 2,by simp only [List.length_append];omega⟩
   rw [hf]
   have:=toks_word n (f+1) (0+a.length) [] g0 (by simpa using g1)
   rw [List.append_nil] at this
   rw [this]
   rfl
  rw [h2] at hx
  cases hx
  simp [areTwo,Except.map]
end Go.Vm.P

/- The words of an expression;they are words,and how many. -/
namespace Go.Vm.P
def Rx.binds (r:Rx):Nat:=if r.op=5 then 1 else if r.op=4∧r.ks≠[] then 2 else 3
def wrapR (least:Nat) (r:Rx) (b:List Str):List Str:=if r.binds<least then [40]::(b++[[41]]) else b
def markOf (op:Int):Str:=if op=7 then [43] else if op=8 then [63] else [42]
mutual
def Rx.body:Rx→List Str
 | .mk op nm ks=>if op=1 then [nm] else if op=2 then [[36],nm] else if op=3 then [[46]] else if op=5 then Rx.alts ks
  else if op=4 then (match ks with|[]=>[[40],[41]]|_::_=>Rx.seqs ks) else Rx.oper ks++[markOf op]
def Rx.alts:List Rx→List Str
 | []=>[]
 | k::ks=>wrapR 2 k k.body++Rx.altF ks
def Rx.altF:List Rx→List Str
 | []=>[]
 | k::ks=>[124]::(wrapR 2 k k.body++Rx.altF ks)
def Rx.seqs:List Rx→List Str
 | []=>[]
 | k::ks=>wrapR 2 k k.body++Rx.seqs ks
def Rx.oper:List Rx→List Str
 | []=>[]
 | k::_=>wrapR 3 k k.body
end
def Rx.say (least:Nat) (r:Rx):List Str:=wrapR least r r.body
theorem wrap_len (c:Nat) (r:Rx) (b:List Str):(wrapR c r b).length≤b.length+2:=by
 unfold wrapR
 split
 ·simp
 ·omega
mutual
theorem Rx.body_len:∀ r:Rx,r.body.length+3≤5 * r.size
 | .mk op nm ks=>by
  have h1:=Rx.alts_len ks
  have h2:=Rx.seqs_len ks
  have h3:=Rx.oper_len ks
  simp only [Rx.size]
  unfold Rx.body
  split
  ·simp only [List.length_cons,List.length_nil];omega
  ·split
   ·simp only [List.length_cons,List.length_nil];omega
   ·split
    ·simp only [List.length_cons,List.length_nil];omega
    ·split
     ·omega
     ·split
      ·split
       ·simp only [List.length_cons,List.length_nil];omega
       ·omega
      ·simp only [List.length_append,List.length_cons,List.length_nil];omega
theorem Rx.alts_len:∀ ks:List Rx,(Rx.alts ks).length≤5 * Rx.sizes ks
 | []=>by simp [Rx.alts]
 | k::ks=>by
  have h1:=Rx.body_len k
  have h2:=Rx.altF_len ks
  have h3:=wrap_len 2 k k.body
  simp only [Rx.alts,Rx.sizes,List.length_append]
  omega
theorem Rx.altF_len:∀ ks:List Rx,(Rx.altF ks).length≤5 * Rx.sizes ks
 | []=>by simp [Rx.altF]
 | k::ks=>by
  have h1:=Rx.body_len k
  have h2:=Rx.altF_len ks
  have h3:=wrap_len 2 k k.body
  simp only [Rx.altF,Rx.sizes,List.length_append,List.length_cons]
  omega
theorem Rx.seqs_len:∀ ks:List Rx,(Rx.seqs ks).length≤5 * Rx.sizes ks
 | []=>by simp [Rx.seqs]
 | k::ks=>by
  have h1:=Rx.body_len k
  have h2:=Rx.seqs_len ks
  have h3:=wrap_len 2 k k.body
  simp only [Rx.seqs,Rx.sizes,List.length_append]
  omega
theorem Rx.oper_len:∀ ks:List Rx,(Rx.oper ks).length≤5 * Rx.sizes ks
 | []=>by simp [Rx.oper]
 | k::ks=>by
  have h1:=Rx.body_len k
  have h3:=wrap_len 3 k k.body
  simp only [Rx.oper,Rx.sizes]
  omega
end
theorem name_chars {s:Str} (h:isName s=true):∃ c r,s=c::r∧r.length<64∧digit c=false∧c.toNat≠45∧∀ d,d ∈ c::r→letter d=true:=by
 cases s with
 | nil=>cases h
 | cons c r =>
  simp only [isName,Bool.and_eq_true,decide_eq_true_eq,Bool.not_eq_true'] at h
  obtain ⟨⟨⟨h1,h2⟩,h3⟩,h4⟩:=h
  exact ⟨c,r,rfl,h1,h2,h3,fun d hd=>List.all_eq_true.1 h4 d hd⟩
theorem letter_not (d:UInt8) (h:d ∈ (62::singles:Str)):letter d=false:=by
 simp only [singles,List.mem_cons,List.not_mem_nil,or_false] at h
 rcases h with rfl|rfl|rfl|rfl|rfl|rfl|rfl|rfl|rfl|rfl|rfl|rfl|rfl<;>decide
theorem run_all:∀ s:Str,(∀ d,d ∈ s→letter d=true)→run s=s.length
 | [],_=>rfl
 | c::s,h=>by
  have ih:=run_all s fun d hd=>h d (List.mem_cons_of_mem _ hd)
  have hp:[45,62].isPrefixOf (c::s)=false:=by
   cases s with
   | nil=>simp [List.isPrefixOf]
   | cons d s =>
    have hd:=h d (by simp)
    have:¬ d=62:=by rintro rfl;rw [letter_not 62 (by simp)] at hd;cases hd
    simp only [List.isPrefixOf,Bool.and_eq_false_imp]
    intro _
    have e:((62:UInt8) == d)=false:=by simp;exact fun e=>this e.symm
    rw [e];simp
  unfold run
  rw [hp,h c (by simp),ih]
  rfl
theorem name_word {s:Str} (h:isName s=true):isWord s=true:=by
 obtain ⟨c,r,rfl,h1,h2,h3,h4⟩:=name_chars h
 refine isWord_iff.2 ⟨by simp, ?_⟩
 have hc:=h4 c (by simp)
 have hs:single c=false:=by
  cases hs:single c with
  | false=>rfl
  | true =>
   have:=letter_not c (List.mem_cons_of_mem _ (by simpa [single] using hs))
   rw [this] at hc;cases hc
 have hp:pair ((c::r).take 2)=false:=by
  cases hp:pair ((c::r).take 2) with
  | false=>rfl
  | true =>
   cases r with
   | nil=>simp [pair] at hp
   | cons d r =>
    rw [take2] at hp
    simp only [pair,Bool.or_eq_true,beq_iff_eq,List.cons.injEq,and_true] at hp
    rcases hp with ((⟨rfl,rfl⟩|⟨rfl,rfl⟩)|⟨rfl,rfl⟩)|⟨rfl,rfl⟩
    ·rw [letter_not 61 (by decide)] at hc;cases hc
    ·rw [letter_not 60 (by decide)] at hc;cases hc
    ·rw [letter_not 62 (by decide)] at hc;cases hc
    ·exact absurd rfl h3
 rw [wlen_c,hp,hs,Bool.and_false]
 exact run_all _ h4
def RxWord (w:Str):Prop:=isWord w=true∧w.length≤200
theorem RxWord.name {s:Str} (h:isName s=true):RxWord s:=by
 obtain ⟨c,r,rfl,h1,_⟩:=name_chars h
 exact ⟨name_word h,by simp only [List.length_cons];omega⟩
theorem RxWord.one (c:UInt8) (h:isWord [c]=true):RxWord [c]:=⟨h,by simp⟩
theorem RxWord.wrap {c:Nat} {r:Rx} {b:List Str} (h:∀ w,w ∈ b→RxWord w):∀ w,w ∈ wrapR c r b→RxWord w:=by
 unfold wrapR
 split
 ·intro w hw
  simp only [List.mem_cons,List.mem_append,List.not_mem_nil,or_false] at hw
  rcases hw with rfl|hw|rfl
  ·exact .one 40 (by decide)
  ·exact h w hw
  ·exact .one 41 (by decide)
 ·exact h
theorem nodeOk_cases {op:Int} {nm:Str} {ks:List Rx} (h:nodeOk op nm ks=true) :
  ((op=1∨op=2)∧isName nm=true∧ks=[])∨(op=3∧nm=[]∧ks=[])∨(op=4∧nm=[]∧ks.length≠1∧hasOp 4 ks=false) ∨
  (op=5∧nm=[]∧2≤ks.length∧hasOp 5 ks=false)∨((op=6∨op=7∨op=8)∧nm=[]∧∃ k,ks=[k]):=by
 unfold nodeOk at h
 split at h
 ·rename_i h0
  simp only [Bool.and_eq_true,beq_iff_eq] at h
  exact .inl ⟨h0,h.1,List.eq_nil_of_length_eq_zero h.2⟩
 ·split at h
  ·rename_i h0
   simp only [Bool.and_eq_true,beq_iff_eq] at h
   exact .inr (.inl ⟨h0,h.1,List.eq_nil_of_length_eq_zero h.2⟩)
  ·split at h
   ·rename_i h0
    simp only [Bool.and_eq_true,beq_iff_eq,bne_iff_ne,Bool.not_eq_true'] at h
    exact .inr (.inr (.inl ⟨h0,h.1.1,h.1.2,h.2⟩))
   ·split at h
    ·rename_i h0
     simp only [Bool.and_eq_true,beq_iff_eq,decide_eq_true_eq,Bool.not_eq_true'] at h
     exact .inr (.inr (.inr (.inl ⟨h0,h.1.1,h.1.2,h.2⟩)))
    ·split at h
     ·rename_i h0
      simp only [Bool.and_eq_true,beq_iff_eq] at h
      exact .inr (.inr (.inr (.inr ⟨h0,h.1,List.length_eq_one_iff.1 h.2⟩)))
     ·cases h
theorem rights_mem:∀ {ks:List Rx},Rx.rights ks=true→∀ k,k ∈ ks→k.right=true
 | k::ks,h,x,hx=>by
  simp only [Rx.rights,Bool.and_eq_true] at h
  rcases List.mem_cons.1 hx with rfl|hx
  ·exact h.1
  ·exact rights_mem h.2 x hx
mutual
theorem Rx.body_words:∀ r:Rx,r.right=true→∀ w,w ∈ r.body→RxWord w
 | .mk op nm ks,h,w,hw=>by
  unfold Rx.right at h
  simp only [Bool.and_eq_true] at h
  obtain ⟨hn,hk⟩:=h
  have h1:=Rx.alts_words ks hk
  have h2:=Rx.seqs_words ks hk
  have h3:=Rx.oper_words ks hk
  unfold Rx.body at hw
  rcases nodeOk_cases hn with ⟨h0,hnm,rfl⟩|⟨rfl,_,rfl⟩|⟨rfl,_,_,_⟩|⟨rfl,_,_,_⟩|⟨h0,_,k,rfl⟩
  ·rcases h0 with rfl|rfl
   ·simp at hw;subst hw;exact .name hnm
   ·simp at hw
    rcases hw with rfl|rfl
    ·exact .one 36 (by decide)
    ·exact .name hnm
  ·simp at hw;subst hw;exact .one 46 (by decide)
  ·rw [if_neg (by decide),if_neg (by decide),if_neg (by decide),if_neg (by decide),if_pos rfl] at hw
   cases ks with
   | nil =>
    simp at hw
    rcases hw with rfl|rfl
    ·exact .one 40 (by decide)
    ·exact .one 41 (by decide)
   | cons k ks=>exact h2 w hw
  ·rw [if_neg (by decide),if_neg (by decide),if_neg (by decide),if_pos rfl] at hw
   exact h1 w hw
  ·have hm:RxWord (markOf op):=by
    unfold markOf
    split
    ·exact .one 43 (by decide)
    ·split
     ·exact .one 63 (by decide)
     ·exact .one 42 (by decide)
   have e:¬ op=1∧¬ op=2∧¬ op=3∧¬ op=5∧¬ op=4:=by omega
   rw [if_neg e.1,if_neg e.2.1,if_neg e.2.2.1,if_neg e.2.2.2.1,if_neg e.2.2.2.2] at hw
   rcases List.mem_append.1 hw with hw|hw
   ·exact h3 w hw
   ·simp at hw;subst hw;exact hm
theorem Rx.alts_words:∀ ks:List Rx,Rx.rights ks=true→∀ w,w ∈ Rx.alts ks→RxWord w
 | [],_,w,hw=>by cases hw
 | k::ks,h,w,hw=>by
  simp only [Rx.rights,Bool.and_eq_true] at h
  unfold Rx.alts at hw
  rcases List.mem_append.1 hw with hw|hw
  ·exact RxWord.wrap (Rx.body_words k h.1) w hw
  ·exact Rx.altF_words ks h.2 w hw
theorem Rx.altF_words:∀ ks:List Rx,Rx.rights ks=true→∀ w,w ∈ Rx.altF ks→RxWord w
 | [],_,w,hw=>by cases hw
 | k::ks,h,w,hw=>by
  simp only [Rx.rights,Bool.and_eq_true] at h
  unfold Rx.altF at hw
  rcases List.mem_cons.1 hw with rfl|hw
  ·exact .one 124 (by decide)
  ·rcases List.mem_append.1 hw with hw|hw
   ·exact RxWord.wrap (Rx.body_words k h.1) w hw
   ·exact Rx.altF_words ks h.2 w hw
theorem Rx.seqs_words:∀ ks:List Rx,Rx.rights ks=true→∀ w,w ∈ Rx.seqs ks→RxWord w
 | [],_,w,hw=>by cases hw
 | k::ks,h,w,hw=>by
  simp only [Rx.rights,Bool.and_eq_true] at h
  unfold Rx.seqs at hw
  rcases List.mem_append.1 hw with hw|hw
  ·exact RxWord.wrap (Rx.body_words k h.1) w hw
  ·exact Rx.seqs_words ks h.2 w hw
theorem Rx.oper_words:∀ ks:List Rx,Rx.rights ks=true→∀ w,w ∈ Rx.oper ks→RxWord w
 | [],_,w,hw=>by cases hw
 | k::ks,h,w,hw=>by
  simp only [Rx.rights,Bool.and_eq_true] at h
  unfold Rx.oper at hw
  exact RxWord.wrap (Rx.body_words k h.1) w hw
end
theorem sayF_len:∀ (l:List Str) (p:Str),(∀ w,w ∈ l→RxWord w)→(sayF p l).length≤201 * l.length
 | [],_,_=>by simp [sayF]
 | w::l,p,h=>by
  have h1:=(h w (by simp)).2
  have h2:=sayF_len l w fun x hx=>h x (List.mem_cons_of_mem _ hx)
  unfold sayF
  simp only [List.length_append,List.length_cons]
  split<;>(try simp only [List.length_cons])<;>omega
theorem sayW_len {l:List Str} (h:∀ w,w ∈ l→RxWord w):(sayW l).length≤201 * l.length:=by
 cases l with
 | nil=>simp [sayW]
 | cons w l =>
  have h1:=(h w (by simp)).2
  have h2:=sayF_len l w fun x hx=>h x (List.mem_cons_of_mem _ hx)
  simp only [sayW,List.length_append,List.length_cons]
  omega
end Go.Vm.P

/- The words of an expression are read as the same expression,unless too many parentheses are open. -/
namespace Go.Vm.P
variable {l:List Word}
def At (l:List Word):Nat→List Str→Prop
 | _,[]=>True
 | i,w::ws=>wordAt l i=w∧At l (i+1) ws
theorem At.app:∀ {a b:List Str} {i:Nat},At l i (a++b)↔At l i a∧At l (i+a.length) b
 | [],b,i=>by simp [At]
 | w::a,b,i=>by
  have e:i+1+a.length=i+(w::a).length:=by simp only [List.length_cons];omega
  simp only [List.cons_append,At,At.app (a:=a),and_assoc,e]
def Out (m:Nat) (r:Rx) (j:Nat) (x:Except (Nat×Int) (Rx×Nat)):Prop:=x=.ok (r,j)∨∃ a,x=.error (a,91)∧50<m
def Over (w:Str):Prop:=w=[41]∨w=[]
theorem Out.mono {m m':Nat} {r:Rx} {j:Nat} {x:Except (Nat×Int) (Rx×Nat)} (h:Out m r j x) (hm:m≤m'):Out m' r j x:=by
 rcases h with h|⟨a,h,h2⟩
 ·exact .inl h
 ·exact .inr ⟨a,h,by omega⟩
def Rx.ins (r:Rx):Nat:=if r.ks=[] then r.size else r.size - 1
structure Reads (l:List Word) (r:Rx):Prop where
 rep:∀ n o i x,At l i (r.say 3)→pRep l n o i=some x→(∃ n',pReps l n' (i+(r.say 3).length) r=some x)∨∃ a,x=.error (a,91)∧50<o+r.size
 seq:r.op≠5→∀ n o i x,At l i r.body→(Over (wordAt l (i+r.body.length))∨wordAt l (i+r.body.length)=[124])→pSeq l n o i=some x→Out (o+r.ins) r (i+r.body.length) x
 alt:∀ n o i x,At l i r.body→Over (wordAt l (i+r.body.length))→pAlt l n o i=some x→Out (o+r.ins) r (i+r.body.length) x
theorem over_op {w:Str} (h:Over w∨w=[124]):opOf w=0∧starts w=false:=by
 rcases h with (rfl|rfl)|rfl<;>exact ⟨by decide,by decide⟩
theorem wrap_head {c:Nat} {r:Rx} {b:List Str} (h:∃ w ws,b=w::ws∧starts w=true):∃ w ws,wrapR c r b=w::ws∧starts w=true:=by
 unfold wrapR
 split
 ·exact ⟨[40],_,rfl,by decide⟩
 ·exact h
theorem body_head:∀ r:Rx,r.right=true→∃ w ws,r.body=w::ws∧starts w=true:=by
 refine Rx.ind fun r ih h=>?_
 obtain ⟨op,nm,ks⟩:=r
 rw [Rx.right_eq,Bool.and_eq_true] at h
 simp only [Rx.op,Rx.nm,Rx.ks] at h ih
 obtain ⟨hn,hk⟩:=h
 have hks:=rights_mem hk
 unfold Rx.body
 rcases nodeOk_cases hn with ⟨h0,hnm,rfl⟩|⟨rfl,_,rfl⟩|⟨rfl,_,h2,_⟩|⟨rfl,_,h2,_⟩|⟨h0,_,k,rfl⟩
 ·rcases h0 with rfl|rfl
  ·exact ⟨nm,[],rfl,by simp [starts,hnm]⟩
  ·exact ⟨[36],[nm],rfl,by decide⟩
 ·exact ⟨[46],[],rfl,by decide⟩
 ·rw [if_neg (by decide),if_neg (by decide),if_neg (by decide),if_neg (by decide),if_pos rfl]
  cases ks with
  | nil=>exact ⟨[40],[[41]],rfl,by decide⟩
  | cons k ks =>
   obtain ⟨w,ws,e,hs⟩:=wrap_head (c:=2) (r:=k) (ih k (by simp) (hks k (by simp)))
   exact ⟨w,ws++Rx.seqs ks,by simp [Rx.seqs,e],hs⟩
 ·rw [if_neg (by decide),if_neg (by decide),if_neg (by decide),if_pos rfl]
  cases ks with
  | nil=>simp at h2
  | cons k ks =>
   obtain ⟨w,ws,e,hs⟩:=wrap_head (c:=2) (r:=k) (ih k (by simp) (hks k (by simp)))
   exact ⟨w,ws++Rx.altF ks,by simp [Rx.alts,e],hs⟩
 ·have e:¬ op=1∧¬ op=2∧¬ op=3∧¬ op=5∧¬ op=4:=by omega
  rw [if_neg e.1,if_neg e.2.1,if_neg e.2.2.1,if_neg e.2.2.2.1,if_neg e.2.2.2.2]
  obtain ⟨w,ws,e,hs⟩:=wrap_head (c:=3) (r:=k) (ih k (by simp) (hks k (by simp)))
  exact ⟨w,ws++[markOf op],by simp [Rx.oper,e],hs⟩
theorem starts_op {w:Str} (h:starts w=true):opOf w=0:=by
 unfold starts at h
 unfold opOf
 have h42:¬ w=[42]:=by rintro rfl;revert h;decide
 have h43:¬ w=[43]:=by rintro rfl;revert h;decide
 have h63:¬ w=[63]:=by rintro rfl;revert h;decide
 rw [if_neg h42,if_neg h43,if_neg h63]
theorem reps_end {n i:Nat} {r:Rx} {x:Except (Nat×Int) (Rx×Nat)} (h:pReps l n i r=some x) (hw:opOf (wordAt l i)=0):x=.ok (r,i):=by
 cases n with
 | zero=>simp only [pSeqs,pAlts,pSeq,pAlt,pRep,pReps,pAtom,reduceCtorEq] at h
 | succ n=>rw [pReps,if_pos hw] at h;exact (Option.some.inj h).symm
theorem ins_kid {r k:Rx} (h:k ∈ r.ks):k.size≤r.ins:=by
 have h1:∀ {ks:List Rx},k ∈ ks→k.size≤Rx.sizes ks:=by
  intro ks hk
  induction ks with
  | nil=>cases hk
  | cons a ks ih =>
   simp only [Rx.sizes]
   rcases List.mem_cons.1 hk with rfl|hk
   ·omega
   ·have:=ih hk;omega
 have:=h1 h
 have e:=Rx.size_eq r
 unfold Rx.ins
 split
 ·omega
 ·omega
theorem ins_le (r:Rx):r.ins≤r.size:=by unfold Rx.ins;split<;>omega
theorem seqs_read:∀ (ks:List Rx) (n o i m:Nat) (acc:List Rx) (x:Except (Nat×Int) (Rx×Nat)),(∀ k,k ∈ ks→Reads l k∧k.right=true∧k.op≠4∧o+k.size≤m) →
  At l i (Rx.seqs ks)→(Over (wordAt l (i+(Rx.seqs ks).length))∨wordAt l (i+(Rx.seqs ks).length)=[124])→pSeqs l n o i acc=some x→Out m (join 4 (acc++ks)) (i+(Rx.seqs ks).length) x
 | [],n,o,i,m,acc,x,hk,ha,hw,h=>by
  cases n with
  | zero=>simp only [pSeqs,pAlts,pSeq,pAlt,pRep,pReps,pAtom,reduceCtorEq] at h
  | succ n =>
   simp only [Rx.seqs,List.length_nil,Nat.add_zero,List.append_nil] at hw ⊢
   rw [pSeqs,if_neg (by rw [(over_op hw).2];decide)] at h
   exact .inl (Option.some.inj h).symm
 | k::ks,n,o,i,m,acc,x,hk,ha,hw,h=>by
  cases n with
  | zero=>simp only [pSeqs,pAlts,pSeq,pAlt,pRep,pReps,pAtom,reduceCtorEq] at h
  | succ n =>
   obtain ⟨hr,hkr,hk4,hkm⟩:=hk k (by simp)
   have hsay:wrapR 2 k k.body=k.say 3:=by
    by_cases h5:k.op=5
    ·have e:k.binds=1:=by unfold Rx.binds;rw [if_pos h5]
     unfold Rx.say wrapR
     rw [e];rfl
    ·have e:k.binds=3:=by unfold Rx.binds;rw [if_neg h5,if_neg (fun e=>hk4 e.1)]
     unfold Rx.say wrapR
     rw [e];rfl
   unfold Rx.seqs at ha hw ⊢
   rw [hsay] at ha hw ⊢
   rw [At.app] at ha
   rw [List.length_append,← Nat.add_assoc] at hw ⊢
   obtain ⟨w,ws,hb,hs⟩:=wrap_head (c:=3) (r:=k) (body_head k hkr)
   have hb':k.say 3=w::ws:=hb
   have h0:=ha.1
   rw [hb'] at h0
   rw [pSeqs,if_pos (by rw [h0.1];exact hs)] at h
   have hnx:opOf (wordAt l (i+(k.say 3).length))=0:=by
    cases ks with
    | nil =>
     simp only [Rx.seqs,List.length_nil,Nat.add_zero] at hw
     exact (over_op hw).1
    | cons k2 ks =>
     obtain ⟨w2,ws2,hb2,hs2⟩:=wrap_head (c:=2) (r:=k2) (body_head k2 (hk k2 (by simp)).2.1)
     have:=ha.2
     rw [Rx.seqs,At.app,hb2] at this
     rw [this.1.1]
     exact starts_op hs2
   rcases PR.bind_some h with ⟨e,h1,rfl⟩|⟨r,j,h1,h2⟩
   ·rcases hr.rep _ _ _ _ ha.1 h1 with ⟨n',h3⟩|⟨a,h3,h4⟩
    ·have:=reps_end h3 hnx;cases this
    ·cases h3;exact .inr ⟨a,rfl,by omega⟩
   ·rcases hr.rep _ _ _ _ ha.1 h1 with ⟨n',h3⟩|⟨a,h3,h4⟩
    ·have:=reps_end h3 hnx
     cases this
     have:=seqs_read ks n o _ m (acc++[k]) x (fun y hy=>hk y (List.mem_cons_of_mem _ hy)) ha.2 hw h2
     rwa [List.append_assoc] at this
    ·cases h3
theorem altF_read:∀ (ks:List Rx) (n o i m:Nat) (acc:List Rx) (x:Except (Nat×Int) (Rx×Nat)),(∀ k,k ∈ ks→Reads l k∧k.right=true∧k.op≠5∧o+k.size≤m) →
  At l i (Rx.altF ks)→Over (wordAt l (i+(Rx.altF ks).length))→pAlts l n o i acc=some x→Out m (join 5 (acc++ks)) (i+(Rx.altF ks).length) x
 | [],n,o,i,m,acc,x,hk,ha,hw,h=>by
  cases n with
  | zero=>simp only [pSeqs,pAlts,pSeq,pAlt,pRep,pReps,pAtom,reduceCtorEq] at h
  | succ n =>
   simp only [Rx.altF,List.length_nil,Nat.add_zero,List.append_nil] at hw ⊢
   have hne:¬ wordAt l i=[124]:=by
    rcases hw with h|h<;>rw [h]<;>decide
   rw [pAlts,if_neg hne] at h
   exact .inl (Option.some.inj h).symm
 | k::ks,n,o,i,m,acc,x,hk,ha,hw,h=>by
  cases n with
  | zero=>simp only [pSeqs,pAlts,pSeq,pAlt,pRep,pReps,pAtom,reduceCtorEq] at h
  | succ n =>
   obtain ⟨hr,hkr,hk5,hkm⟩:=hk k (by simp)
   have hsay:wrapR 2 k k.body=k.body:=by
    have e:2≤k.binds:=by unfold Rx.binds;rw [if_neg hk5];split<;>omega
    unfold wrapR
    rw [if_neg (by omega)]
   unfold Rx.altF at ha hw ⊢
   rw [hsay] at ha hw ⊢
   obtain ⟨ha0,ha⟩:=ha
   rw [At.app] at ha
   have e1:i+([124]::(k.body++Rx.altF ks)).length=(i+1+k.body.length)+(Rx.altF ks).length:=by simp only [List.length_cons,List.length_append];omega
   rw [e1] at hw ⊢
   rw [pAlts,if_pos ha0] at h
   have hnx:Over (wordAt l (i+1+k.body.length))∨wordAt l (i+1+k.body.length)=[124]:=by
    cases ks with
    | nil=>simp only [Rx.altF,List.length_nil,Nat.add_zero] at hw;exact .inl hw
    | cons k2 ks=>exact .inr ha.2.1
   have hik:o+k.ins≤m:=by have:=ins_le k;omega
   rcases PR.bind_some h with ⟨e,h1,rfl⟩|⟨r,j,h1,h2⟩
   ·rcases hr.seq hk5 _ _ _ _ ha.1 hnx h1 with h3|⟨a,h3,h4⟩
    ·cases h3
    ·cases h3;exact .inr ⟨a,rfl,by omega⟩
   ·rcases hr.seq hk5 _ _ _ _ ha.1 hnx h1 with h3|⟨a,h3,h4⟩
    ·cases h3
     have:=altF_read ks n o _ m (acc++[k]) x (fun y hy=>hk y (List.mem_cons_of_mem _ hy)) ha.2 hw h2
     rwa [List.append_assoc] at this
    ·cases h3
theorem flat_no {op:Int}:∀ {ks:List Rx},(∀ k,k ∈ ks→k.op≠op)→flat op ks=ks
 | [],_=>rfl
 | k::ks,h=>by
  unfold flat
  rw [if_neg (h k (by simp)),flat_no fun x hx=>h x (List.mem_cons_of_mem _ hx)]
  rfl
theorem join_no {op:Int} {ks:List Rx} (h:∀ k,k ∈ ks→k.op≠op) (h2:2≤ks.length):join op ks=.mk op [] ks:=by
 match ks,h2 with
 | a::b::ks,_ =>
  show (match flat op (a::b::ks) with|[r]=>r|ks=>Rx.mk op [] ks)=_
  rw [flat_no h]
theorem hasOp_no {op:Int} {ks:List Rx} (h:hasOp op ks=false):∀ k,k ∈ ks→k.op≠op:=by
 intro k hk e
 unfold hasOp at h
 rw [List.any_eq_false] at h
 exact h k hk (by simp [e])
theorem seq_one {r:Rx} {n o i:Nat} {x:Except (Nat×Int) (Rx×Nat)} (hr:∀ n o i x,At l i (r.say 3)→pRep l n o i=some x→(∃ n',pReps l n' (i+(r.say 3).length) r=some x)∨∃ a,x=.error (a,91)∧50<o+r.ins)
  (hb:r.say 3=r.body) (ha:At l i r.body) (hw:Over (wordAt l (i+r.body.length))∨wordAt l (i+r.body.length)=[124]) (h:pSeq l n o i=some x):Out (o+r.ins) r (i+r.body.length) x:=by
 cases n with
 | zero=>simp only [pSeqs,pAlts,pSeq,pAlt,pRep,pReps,pAtom,reduceCtorEq] at h
 | succ n =>
  rw [pSeq] at h
  have hnx:=over_op hw
  rcases PR.bind_some h with ⟨e,h1,rfl⟩|⟨r',j,h1,h2⟩
  ·rcases hr _ _ _ _ (hb ▸ ha) h1 with ⟨n',h3⟩|⟨a,h3,h4⟩
   ·rw [hb] at h3;have:=reps_end h3 hnx.1;cases this
   ·cases h3;exact .inr ⟨a,rfl,h4⟩
  ·rcases hr _ _ _ _ (hb ▸ ha) h1 with ⟨n',h3⟩|⟨a,h3,h4⟩
   ·rw [hb] at h3
    have:=reps_end h3 hnx.1
    cases this
    cases n with
    | zero=>simp only [pSeqs,pAlts,pSeq,pAlt,pRep,pReps,pAtom,reduceCtorEq] at h2
    | succ n =>
     rw [pSeqs,if_neg (by rw [hnx.2];decide)] at h2
     exact .inl (Option.some.inj h2).symm
   ·cases h3
theorem alt_one {r:Rx} {n o i:Nat} {x:Except (Nat×Int) (Rx×Nat)} (hr:∀ n o i x,At l i r.body→(Over (wordAt l (i+r.body.length))∨wordAt l (i+r.body.length)=[124])→pSeq l n o i=some x→Out (o+r.ins) r (i+r.body.length) x)
  (ha:At l i r.body) (hw:Over (wordAt l (i+r.body.length))) (h:pAlt l n o i=some x):Out (o+r.ins) r (i+r.body.length) x:=by
 cases n with
 | zero=>simp only [pSeqs,pAlts,pSeq,pAlt,pRep,pReps,pAtom,reduceCtorEq] at h
 | succ n =>
  rw [pAlt] at h
  have hne:¬ wordAt l (i+r.body.length)=[124]:=by
   rcases hw with h|h<;>rw [h]<;>decide
  rcases PR.bind_some h with ⟨e,h1,rfl⟩|⟨r',j,h1,h2⟩
  ·exact (hr _ _ _ _ ha (.inl hw) h1).elim (fun e=>by cases e) fun ⟨a,h3,h4⟩=>.inr ⟨a,h3,h4⟩
  ·rcases hr _ _ _ _ ha (.inl hw) h1 with h3|⟨a,h3,h4⟩
   ·cases h3
    cases n with
    | zero=>simp only [pSeqs,pAlts,pSeq,pAlt,pRep,pReps,pAtom,reduceCtorEq] at h2
    | succ n =>
     rw [pAlts,if_neg hne] at h2
     exact .inl (Option.some.inj h2).symm
   ·cases h3
theorem rep_wrap {r:Rx} (hr:r.right=true) (hks:r.ks≠[]) (hb:r.binds<3) (hal:∀ n o i x,At l i r.body→Over (wordAt l (i+r.body.length))→pAlt l n o i=some x→Out (o+r.ins) r (i+r.body.length) x) :
  ∀ n o i x,At l i (r.say 3)→pRep l n o i=some x→(∃ n',pReps l n' (i+(r.say 3).length) r=some x)∨∃ a,x=.error (a,91)∧50<o+r.size:=by
 intro n o i x ha h
 have hsay:r.say 3=[40]::(r.body++[[41]]):=by unfold Rx.say wrapR;rw [if_pos hb]
 rw [hsay] at ha ⊢
 obtain ⟨ha0,ha⟩:=ha
 rw [At.app] at ha
 obtain ⟨ha1,ha2,_⟩:=ha
 obtain ⟨w,ws,hbd,hs⟩:=body_head r hr
 have hpos:=Rx.size_pos r
 have hins:r.ins=r.size - 1:=by unfold Rx.ins;rw [if_neg hks]
 have hw1:¬ wordAt l (i+1)=[41]:=by
  have:=ha1
  rw [hbd] at this
  rw [this.1]
  rintro rfl
  revert hs;decide
 cases n with
 | zero=>simp only [pSeqs,pAlts,pSeq,pAlt,pRep,pReps,pAtom,reduceCtorEq] at h
 | succ n =>
  rw [pRep] at h
  have key:∀ y,pAtom l n o i=some y→y=.ok (r,i+1+r.body.length+1)∨∃ a,y=.error (a,91)∧50<o+r.size:=by
   intro y hy
   cases n with
   | zero=>simp only [pSeqs,pAlts,pSeq,pAlt,pRep,pReps,pAtom,reduceCtorEq] at hy
   | succ n =>
    rw [pAtom,if_neg (by rw [ha0];decide),if_neg (by rw [ha0];decide),if_pos ha0,if_neg hw1] at hy
    split at hy
    ·cases hy;exact .inr ⟨_,rfl,by omega⟩
    ·rcases PR.bind_some hy with ⟨e,h1,rfl⟩|⟨r',j,h1,h2⟩
     ·rcases hal _ _ _ _ ha1 (.inl ha2) h1 with h3|⟨a,h3,h4⟩
      ·cases h3
      ·cases h3;exact .inr ⟨a,rfl,by omega⟩
     ·rcases hal _ _ _ _ ha1 (.inl ha2) h1 with h3|⟨a,h3,h4⟩
      ·cases h3
       rw [if_pos ha2] at h2
       exact .inl (Option.some.inj h2).symm
      ·cases h3
  rcases PR.bind_some h with ⟨e,h1,rfl⟩|⟨r',j,h1,h2⟩
  ·rcases key _ h1 with h3|h3
   ·cases h3
   ·exact .inr h3
  ·rcases key _ h1 with h3|⟨a,h3,h4⟩
   ·cases h3
    refine .inl ⟨n, ?_⟩
    have e:i+([40]::(r.body++[[41]])).length=i+1+r.body.length+1:=by simp only [List.length_cons,List.length_append,List.length_nil];omega
    rw [e];exact h2
   ·cases h3
theorem binds_mk (op:Int) (nm:Str) (ks:List Rx):(Rx.mk op nm ks).binds=if op=5 then 1 else if op=4∧ks≠[] then 2 else 3:=rfl
theorem say3 {r:Rx} (h:r.binds=3):r.say 3=r.body:=by unfold Rx.say wrapR;rw [h];rfl
theorem reads (l:List Word):∀ r:Rx,r.right=true→Reads l r:=by
 refine Rx.ind fun r ih h=>?_
 have hright:=h
 rw [Rx.right_eq,Bool.and_eq_true] at h
 obtain ⟨hn,hk⟩:=h
 have hks:=rights_mem hk
 have hsub:∀ k,k ∈ r.ks→Reads l k:=fun k hm=>ih k hm (hks k hm)
 obtain ⟨op,nm,ks⟩:=r
 simp only [Rx.op,Rx.nm,Rx.ks] at hn hk hks hsub
 rcases nodeOk_cases hn with ⟨h0,hnm,rfl⟩|⟨rfl,rfl,rfl⟩|⟨rfl,rfl,h2,h3⟩|⟨rfl,rfl,h2,h3⟩|⟨h0,rfl,k,rfl⟩
 ·-- a device or a class
  have h5:¬ op=5:=by omega
  have h4:¬ op=4:=by omega
  have hb:(Rx.mk op nm []).say 3=(Rx.mk op nm []).body:=by
   exact say3 (by rw [binds_mk,if_neg h5,if_neg (fun e=>h4 e.1)])
  have hrep:∀ n o i x,At l i ((Rx.mk op nm []).say 3)→pRep l n o i=some x→(∃ n',pReps l n' (i+((Rx.mk op nm []).say 3).length) (Rx.mk op nm [])=some x)∨∃ a,x=.error (a,91)∧50<o+(Rx.mk op nm []).ins:=by
   intro n o i x ha hx
   rw [hb] at ha ⊢
   have hst:starts nm=true:=by simp [starts,hnm]
   have hq:¬ nm=[46]∧¬ nm=[36]∧¬ nm=[40]:=by
    refine ⟨?_, ?_, ?_⟩<;>(rintro rfl;revert hnm;decide)
   cases n with
   | zero=>simp only [pSeqs,pAlts,pSeq,pAlt,pRep,pReps,pAtom,reduceCtorEq] at hx
   | succ n =>
    rw [pRep] at hx
    have key:∀ y,pAtom l n o i=some y→y=.ok (Rx.mk op nm [],i+(Rx.mk op nm []).body.length):=by
     intro y hy
     cases n with
     | zero=>simp only [pSeqs,pAlts,pSeq,pAlt,pRep,pReps,pAtom,reduceCtorEq] at hy
     | succ n =>
      rcases h0 with rfl|rfl
      ·have ha0:wordAt l i=nm:=ha.1
       rw [pAtom,ha0,if_neg hq.1,if_neg hq.2.1,if_neg hq.2.2,if_pos hnm] at hy
       exact (Option.some.inj hy).symm
      ·have ha0:wordAt l i=[36]:=ha.1
       have ha1:wordAt l (i+1)=nm:=ha.2.1
       rw [pAtom,if_neg (by rw [ha0];decide),if_pos ha0,if_pos (by rw [ha1];exact hnm),ha1] at hy
       exact (Option.some.inj hy).symm
    rcases PR.bind_some hx with ⟨e,h1,rfl⟩|⟨r',j,h1,h2⟩
    ·have:=key _ h1;cases this
    ·have:=key _ h1;cases this;exact .inl ⟨n,h2⟩
  have hseq:∀ n o i x,At l i (Rx.mk op nm []).body→(Over (wordAt l (i+(Rx.mk op nm []).body.length))∨wordAt l (i+(Rx.mk op nm []).body.length)=[124])→pSeq l n o i=some x→Out (o+(Rx.mk op nm []).ins) (Rx.mk op nm []) (i+(Rx.mk op nm []).body.length) x :=
   fun n o i x ha hw hx=>seq_one hrep hb ha hw hx
  exact ⟨fun n o i x ha hx=>(hrep n o i x ha hx).imp id fun ⟨a,h1,h2⟩=>⟨a,h1,by have:=ins_le (Rx.mk op nm []);omega⟩,fun _=>hseq,fun n o i x ha hw hx=>alt_one hseq ha hw hx⟩
 ·-- any
  have hb:(Rx.mk 3 [] []).say 3=(Rx.mk 3 [] []).body:=rfl
  have hrep:∀ n o i x,At l i ((Rx.mk 3 [] []).say 3)→pRep l n o i=some x→(∃ n',pReps l n' (i+((Rx.mk 3 [] []).say 3).length) (Rx.mk 3 [] [])=some x)∨∃ a,x=.error (a,91)∧50<o+(Rx.mk 3 [] []).ins:=by
   intro n o i x ha hx
   have ha0:wordAt l i=[46]:=ha.1
   cases n with
   | zero=>simp only [pSeqs,pAlts,pSeq,pAlt,pRep,pReps,pAtom,reduceCtorEq] at hx
   | succ n =>
    rw [pRep] at hx
    have key:∀ y,pAtom l n o i=some y→y=.ok (Rx.mk 3 [] [],i+1):=by
     intro y hy
     cases n with
     | zero=>simp only [pSeqs,pAlts,pSeq,pAlt,pRep,pReps,pAtom,reduceCtorEq] at hy
     | succ n=>rw [pAtom,if_pos ha0] at hy;exact (Option.some.inj hy).symm
    rcases PR.bind_some hx with ⟨e,h1,rfl⟩|⟨r',j,h1,h2⟩
    ·have:=key _ h1;cases this
    ·have:=key _ h1;cases this;exact .inl ⟨n,h2⟩
  have hseq:∀ n o i x,At l i (Rx.mk 3 [] []).body→(Over (wordAt l (i+(Rx.mk 3 [] []).body.length))∨wordAt l (i+(Rx.mk 3 [] []).body.length)=[124])→pSeq l n o i=some x→Out (o+(Rx.mk 3 [] []).ins) (Rx.mk 3 [] []) (i+(Rx.mk 3 [] []).body.length) x :=
   fun n o i x ha hw hx=>seq_one hrep hb ha hw hx
  exact ⟨fun n o i x ha hx=>(hrep n o i x ha hx).imp id fun ⟨a,h1,h2⟩=>⟨a,h1,by have:=ins_le (Rx.mk 3 [] []);omega⟩,fun _=>hseq,fun n o i x ha hw hx=>alt_one hseq ha hw hx⟩
 ·-- one behind the other
  cases ks with
  | nil =>
   have hb:(Rx.mk 4 [] []).say 3=(Rx.mk 4 [] []).body:=rfl
   have hrep:∀ n o i x,At l i ((Rx.mk 4 [] []).say 3)→pRep l n o i=some x→(∃ n',pReps l n' (i+((Rx.mk 4 [] []).say 3).length) (Rx.mk 4 [] [])=some x)∨∃ a,x=.error (a,91)∧50<o+(Rx.mk 4 [] []).ins:=by
    intro n o i x ha hx
    have ha0:wordAt l i=[40]:=ha.1
    have ha1:wordAt l (i+1)=[41]:=ha.2.1
    cases n with
    | zero=>simp only [pSeqs,pAlts,pSeq,pAlt,pRep,pReps,pAtom,reduceCtorEq] at hx
    | succ n =>
     rw [pRep] at hx
     have key:∀ y,pAtom l n o i=some y→y=.ok (Rx.mk 4 [] [],i+2)∨∃ a,y=.error (a,91)∧50<o+(Rx.mk 4 [] []).ins:=by
      intro y hy
      cases n with
      | zero=>simp only [pSeqs,pAlts,pSeq,pAlt,pRep,pReps,pAtom,reduceCtorEq] at hy
      | succ n =>
       rw [pAtom,if_neg (by rw [ha0];decide),if_neg (by rw [ha0];decide),if_pos ha0] at hy
       split at hy
       ·cases hy;exact .inr ⟨_,rfl,by show 50<o+1;omega⟩
       ·exact .inl (Option.some.inj hy).symm
     rcases PR.bind_some hx with ⟨e,h1,rfl⟩|⟨r',j,h1,h2⟩
     ·rcases key _ h1 with h3|h3
      ·cases h3
      ·exact .inr h3
     ·rcases key _ h1 with h3|⟨a,h3,h4⟩
      ·cases h3;exact .inl ⟨n,h2⟩
      ·cases h3
   have hseq:∀ n o i x,At l i (Rx.mk 4 [] []).body→(Over (wordAt l (i+(Rx.mk 4 [] []).body.length))∨wordAt l (i+(Rx.mk 4 [] []).body.length)=[124])→pSeq l n o i=some x→Out (o+(Rx.mk 4 [] []).ins) (Rx.mk 4 [] []) (i+(Rx.mk 4 [] []).body.length) x :=
    fun n o i x ha hw hx=>seq_one hrep hb ha hw hx
   exact ⟨fun n o i x ha hx=>(hrep n o i x ha hx).imp id fun ⟨a,h1,h2⟩=>⟨a,h1,by have:=ins_le (Rx.mk 4 [] []);omega⟩,fun _=>hseq,fun n o i x ha hw hx=>alt_one hseq ha hw hx⟩
  | cons k ks =>
   have hno:=hasOp_no h3
   have hlen:2≤(k::ks).length:=by simp only [List.length_cons] at h2 ⊢;omega
   have hbody:(Rx.mk 4 [] (k::ks)).body=Rx.seqs (k::ks):=rfl
   have hseq:∀ n o i x,At l i (Rx.mk 4 [] (k::ks)).body→(Over (wordAt l (i+(Rx.mk 4 [] (k::ks)).body.length))∨wordAt l (i+(Rx.mk 4 [] (k::ks)).body.length)=[124])→pSeq l n o i=some x→Out (o+(Rx.mk 4 [] (k::ks)).ins) (Rx.mk 4 [] (k::ks)) (i+(Rx.mk 4 [] (k::ks)).body.length) x:=by
    intro n o i x ha hw hx
    cases n with
    | zero=>simp only [pSeqs,pAlts,pSeq,pAlt,pRep,pReps,pAtom,reduceCtorEq] at hx
    | succ n =>
     -- the first part as one of the others
     have h1:pSeqs l (n+1) o i []=some x:=by
      rw [pSeq] at hx
      rw [pSeqs,if_pos ?_]
      ·exact hx
      ·rw [hbody,Rx.seqs,At.app] at ha
       obtain ⟨w,ws,hb2,hs2⟩:=wrap_head (c:=2) (r:=k) (body_head k (hks k (by simp)))
       have:=ha.1
       rw [hb2] at this
       rw [this.1];exact hs2
     have:=seqs_read (k::ks) (n+1) o i (o+(Rx.mk 4 [] (k::ks)).ins) [] x (fun y hy=>⟨hsub y hy,hks y hy,hno y hy,by have:=ins_kid (r:=Rx.mk 4 [] (k::ks)) hy;omega⟩) ha hw h1
     rw [List.nil_append,join_no hno hlen] at this
     exact this
   have halt:∀ n o i x,At l i (Rx.mk 4 [] (k::ks)).body→Over (wordAt l (i+(Rx.mk 4 [] (k::ks)).body.length))→pAlt l n o i=some x→Out (o+(Rx.mk 4 [] (k::ks)).ins) (Rx.mk 4 [] (k::ks)) (i+(Rx.mk 4 [] (k::ks)).body.length) x :=
    fun n o i x ha hw hx=>alt_one hseq ha hw hx
   exact ⟨rep_wrap hright (by simp [Rx.ks]) (by simp [Rx.binds,Rx.op,Rx.ks]) halt,fun _=>hseq,halt⟩
 ·-- either
  cases ks with
  | nil=>simp at h2
  | cons k ks =>
   have hno:=hasOp_no h3
   have hbody:(Rx.mk 5 [] (k::ks)).body=Rx.alts (k::ks):=rfl
   have hk5:=hno k (by simp)
   have hsay:wrapR 2 k k.body=k.body:=by
    have e:2≤k.binds:=by unfold Rx.binds;rw [if_neg hk5];split<;>omega
    unfold wrapR
    rw [if_neg (by omega)]
   have halt:∀ n o i x,At l i (Rx.mk 5 [] (k::ks)).body→Over (wordAt l (i+(Rx.mk 5 [] (k::ks)).body.length))→pAlt l n o i=some x→Out (o+(Rx.mk 5 [] (k::ks)).ins) (Rx.mk 5 [] (k::ks)) (i+(Rx.mk 5 [] (k::ks)).body.length) x:=by
    intro n o i x ha hw hx
    rw [hbody,Rx.alts,hsay] at ha hw ⊢
    rw [At.app] at ha
    rw [List.length_append,← Nat.add_assoc] at hw ⊢
    cases n with
    | zero=>simp only [pSeqs,pAlts,pSeq,pAlt,pRep,pReps,pAtom,reduceCtorEq] at hx
    | succ n =>
     rw [pAlt] at hx
     have hnx:Over (wordAt l (i+k.body.length))∨wordAt l (i+k.body.length)=[124]:=by
      cases ks with
      | nil=>simp only [Rx.altF,List.length_nil,Nat.add_zero] at hw;exact .inl hw
      | cons k2 ks=>exact .inr ha.2.1
     have hm:o+k.ins≤o+(Rx.mk 5 [] (k::ks)).ins:=by
      have h1:=ins_le k
      have h2:=ins_kid (r:=Rx.mk 5 [] (k::ks)) (k:=k) (by simp [Rx.ks])
      omega
     rcases PR.bind_some hx with ⟨e,h1,rfl⟩|⟨r',j,h1,h2⟩
     ·rcases (hsub k (by simp)).seq hk5 _ _ _ _ ha.1 hnx h1 with h3|⟨a,h3,h4⟩
      ·cases h3
      ·cases h3;exact .inr ⟨a,rfl,by omega⟩
     ·rcases (hsub k (by simp)).seq hk5 _ _ _ _ ha.1 hnx h1 with h3|⟨a,h3,h4⟩
      ·cases h3
       have:=altF_read ks n o _ (o+(Rx.mk 5 [] (k::ks)).ins) [k] x (fun y hy=>⟨hsub y (List.mem_cons_of_mem _ hy),hks y (List.mem_cons_of_mem _ hy),hno y (List.mem_cons_of_mem _ hy),by have:=ins_kid (r:=Rx.mk 5 [] (k::ks)) (k:=y) (by simp [Rx.ks,hy]);omega⟩) ha.2 hw h2
       rw [List.cons_append,List.nil_append,join_no hno (by assumption)] at this
       exact this
      ·cases h3
   exact ⟨rep_wrap hright (by simp [Rx.ks]) (by simp [Rx.binds,Rx.op]) halt,fun h=>absurd rfl h,halt⟩
 ·-- with a mark
  have e:¬ op=1∧¬ op=2∧¬ op=3∧¬ op=5∧¬ op=4:=by omega
  have hb:(Rx.mk op [] [k]).say 3=(Rx.mk op [] [k]).body:=by
   exact say3 (by rw [binds_mk,if_neg e.2.2.2.1,if_neg (fun h=>e.2.2.2.2 h.1)])
  have hbody:(Rx.mk op [] [k]).body=k.say 3++[markOf op]:=by
   unfold Rx.body
   rw [if_neg e.1,if_neg e.2.1,if_neg e.2.2.1,if_neg e.2.2.2.1,if_neg e.2.2.2.2]
   rfl
  have hmk:opOf (markOf op)=op:=by
   rcases h0 with rfl|rfl|rfl<;>decide
  have hki:k.size≤(Rx.mk op [] [k]).ins:=ins_kid (r:=Rx.mk op [] [k]) (by simp [Rx.ks])
  have hrep:∀ n o i x,At l i ((Rx.mk op [] [k]).say 3)→pRep l n o i=some x→(∃ n',pReps l n' (i+((Rx.mk op [] [k]).say 3).length) (Rx.mk op [] [k])=some x)∨∃ a,x=.error (a,91)∧50<o+(Rx.mk op [] [k]).ins:=by
   intro n o i x ha hx
   rw [hb,hbody] at ha ⊢
   rw [At.app] at ha
   obtain ⟨ha1,ha2,_⟩:=ha
   rcases (hsub k (by simp)).rep _ _ _ _ ha1 hx with ⟨n',h1⟩|⟨a,h1,h2⟩
   ·cases n' with
    | zero=>cases h1
    | succ n' =>
     rw [pReps,ha2,hmk,if_neg (by omega)] at h1
     refine .inl ⟨n', ?_⟩
     rw [List.length_append,← Nat.add_assoc]
     exact h1
   ·exact .inr ⟨a,h1,by omega⟩
  have hseq:∀ n o i x,At l i (Rx.mk op [] [k]).body→(Over (wordAt l (i+(Rx.mk op [] [k]).body.length))∨wordAt l (i+(Rx.mk op [] [k]).body.length)=[124])→pSeq l n o i=some x→Out (o+(Rx.mk op [] [k]).ins) (Rx.mk op [] [k]) (i+(Rx.mk op [] [k]).body.length) x :=
   fun n o i x ha hw hx=>seq_one hrep hb ha hw hx
  exact ⟨fun n o i x ha hx=>(hrep n o i x ha hx).imp id fun ⟨a,h1,h2⟩=>⟨a,h1,by have:=ins_le (Rx.mk op [] [k]);omega⟩,fun _=>hseq,fun n o i x ha hw hx=>alt_one hseq ha hw hx⟩
theorem At.drop:∀ {b:List Str} {i:Nat},(l.drop i).map Word.t=b→At l i b
 | [],_,_=>trivial
 | w::b,i,h=>by
  cases hd:l.drop i with
  | nil=>rw [hd] at h;cases h
  | cons v t =>
   rw [hd] at h
   simp only [List.map_cons,List.cons.injEq] at h
   have hv:l[i]?=some v:=by
    have:=congrArg (fun x=>x[0]?) hd
    simpa using this
   refine ⟨by unfold wordAt;rw [hv];exact h.1,At.drop ?_⟩
   rw [← List.drop_drop,hd]
   exact h.2
theorem check_0 {r:Rx} (h:r.check=0):r.size≤1000∧r.depth≤100∧r.right=true:=by
 unfold Rx.check at h
 split at h
 ·cases h
 ·split at h
  ·cases h
  ·split at h
   ·exact ⟨by omega,by omega,by assumption⟩
   ·cases h
end Go.Vm.P

/- Invariants: their words. -/
namespace Go.Vm.P
def joinT (first:Bool):List Str→List Str
 | []=>[]
 | x::t=>(if first=true then [x] else [[44],x])++joinT false t
theorem joinT_len:∀ (b:Bool) (l:List Str),(joinT b l).length≤2 * l.length
 | _,[]=>by simp [joinT]
 | b,x::t=>by
  have:=joinT_len false t
  unfold joinT
  cases b<;>simp<;>omega
end Go.Vm.P

/- Words of letters alone. -/
namespace Go.Vm.P
theorem letters_word {c:UInt8} {r:Str} (h4:∀ d,d ∈ c::r→letter d=true) (h3:c.toNat≠45):isWord (c::r)=true:=by
 refine isWord_iff.2 ⟨by simp, ?_⟩
 have hc:=h4 c (by simp)
 have hs:single c=false:=by
  cases hs:single c with
  | false=>rfl
  | true =>
   have:=letter_not c (List.mem_cons_of_mem _ (by simpa [single] using hs))
   rw [this] at hc;cases hc
 have hp:pair ((c::r).take 2)=false:=by
  cases hp:pair ((c::r).take 2) with
  | false=>rfl
  | true =>
   cases r with
   | nil=>simp [pair] at hp
   | cons d r =>
    rw [take2] at hp
    simp only [pair,Bool.or_eq_true,beq_iff_eq,List.cons.injEq,and_true] at hp
    rcases hp with ((⟨rfl,rfl⟩|⟨rfl,rfl⟩)|⟨rfl,rfl⟩)|⟨rfl,rfl⟩
    ·rw [letter_not 61 (by decide)] at hc;cases hc
    ·rw [letter_not 60 (by decide)] at hc;cases hc
    ·rw [letter_not 62 (by decide)] at hc;cases hc
    ·exact absurd rfl h3
 rw [wlen_c,hp,hs,Bool.and_false]
 exact run_all _ h4
theorem cube_word {s:Str} (h:isCube s=true):RxWord s:=by
 unfold isCube at h
 simp only [Bool.and_eq_true,decide_eq_true_eq] at h
 obtain ⟨⟨h1,h2⟩,h3⟩:=h
 have hb:∀ d:UInt8,cubeB d=true→letter d=true∧d.toNat≠45:=by
  intro d hd
  simp only [cubeB,decide_eq_true_eq] at hd
  have e:∀ n:Nat,d.toNat=n→d=UInt8.ofNat n:=fun n hn=>by rw [← hn];simp
  rcases hd with hd|hd|hd<;>(rw [e _ hd];decide)
 have h1':=List.all_eq_true.1 h1
 cases s with
 | nil=>exact absurd rfl h2
 | cons c r=>exact ⟨letters_word (fun d hd=>(hb d (h1' d hd)).1) (hb c (h1' c (by simp))).2,by omega⟩
end Go.Vm.P
