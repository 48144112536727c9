/- VmInv, VmPure in one text. -/
import Derived.Test.YtagmpieoalkneaaGreatDoorVmRep
import Derived.Laws.Entries
import Derived.Laws.Slices
import Derived.Laws.Build
import Derived.Laws.BytesString
import Derived.Laws.Cells
import Derived.Laws.Append
import Derived.Laws.IdiomCopy
import Derived.Laws.MakeOwn
import Derived.Laws.Concat
set_option linter.all false
/- The steps by which the invariant between the abstract store and memory goes on. -/
namespace Go.Vm
open Go.RowKit

def upd {α:Type} (f:Nat→α) (k:Nat) (x:α):Nat→α:=fun i=>if i=k then x else f i
@[simp] theorem upd_same {α:Type} (f:Nat→α) (k:Nat) (x:α):upd f k x k=x:=by simp [upd]
theorem upd_ne {α:Type} (f:Nat→α) {k i:Nat} (x:α) (h:i≠k):upd f k x i=f i:=by simp [upd,h]

theorem Inv.lt {g:Gh} {A:St} {w:World} (I:Inv g A w) {k b off:Nat} (hk:k<g.len) (h:(g.m k).owns b off):b<w.heap.size:=by
 have hk':k<A.length:=I.len ▸ hk
 have hs:=I.slot k A[k] (by simp [hk'])
 cases hm:g.m k with
 | none=>rw [hm] at h;exact h.elim
 | wait=>rw [hm] at h;exact h.elim
 | var b0 o n x =>
  rw [hm] at h hs
  obtain ⟨rfl,h0⟩:=h
  cases hA:A[k] with
  | cells cs =>
   rw [hA] at hs
   obtain ⟨⟨rfl,hx,_⟩,_⟩:=hs
   exact (hx h0).1
  | tok n=>rw [hA] at hs;exact hs.elim
  | dead=>rw [hA] at hs;exact hs.elim
  | loop f t rf st=>rw [hA] at hs;exact hs.elim
  | map kt ks vs bs c=>rw [hA] at hs;exact hs.elim
  | dfb=>rw [hA] at hs;exact hs.elim
 | obj l =>
  rw [hm] at h hs
  have h':b=l:=h
  subst h'
  cases hA:A[k] with
  | cells cs=>rw [hA] at hs;exact hs.elim
  | tok n=>rw [hA] at hs;exact hs.elim
  | dead=>rw [hA] at hs;exact hs.elim
  | loop f t rf st=>rw [hA] at hs;obtain ⟨r,hr,_⟩:=hs;exact (Array.getElem?_eq_some_iff.1 hr).1
  | map kt ks vs bs c=>rw [hA] at hs;obtain ⟨r,hr,_⟩:=hs;exact (Array.getElem?_eq_some_iff.1 hr).1
  | dfb=>rw [hA] at hs;exact (Array.getElem?_eq_some_iff.1 hs).1
 | tok r n =>
  rw [hm] at h hs
  cases r with
  | none=>exact h.elim
  | some x =>
   obtain ⟨b0,e,lim⟩:=x
   obtain ⟨rfl,h1,h2⟩:=h
   cases hA:A[k] with
   | cells cs=>rw [hA] at hs;exact hs.elim
   | dead=>rw [hA] at hs;exact hs.elim
   | loop f t rf st=>rw [hA] at hs;exact hs.elim
   | map kt ks vs bs c=>rw [hA] at hs;exact hs.elim
   | dfb=>rw [hA] at hs;exact hs.elim
   | tok m =>
    rw [hA] at hs
    obtain ⟨⟨v,hv⟩,_⟩:=hs.2 b e lim rfl off h1 h2
    exact World.block_lt_of_cell? w _ hv
theorem Inv.stab_lt {g:Gh} {A:St} {w:World} (I:Inv g A w) {b off:Nat} (h:g.stab b off):b<w.heap.size :=
 h.elim (fun h=>Nat.lt_of_lt_of_le h I.base) (I.old b off)

theorem SlotOk.keep {g g':Gh} {w w':World} (E:Ext g w g' w') {bd:Bind} {s:Slot} (h:SlotOk g w bd s)
  (hc:∀ b off,bd.owns b off→w'.cell? ⟨b,off,none⟩=w.cell? ⟨b,off,none⟩∧w'.frozen? ⟨b,off,none⟩=w.frozen? ⟨b,off,none⟩)
  (ho:∀ l,bd=.obj l→w'.heap[l]?=w.heap[l]?):SlotOk g' w' bd s:=by
 cases bd with
 | obj l =>
  cases s with
  | dfb=>exact (ho l rfl).trans h
  | loop f t rf st =>
   obtain ⟨r,h1,h2,h3,h4⟩:=h
   exact ⟨r,(ho l rfl).trans h1,h2,E.repL h3,h4⟩
  | map kt ks vs bs c =>
   obtain ⟨r,h1,h2,h3,h4⟩:=h
   exact ⟨r,(ho l rfl).trans h1,h2,E.repL h3,h4⟩
  | _=>exact h.elim
 | none=>cases s<;>exact h
 | wait=>cases s<;>exact h
 | var b o n x =>
  cases s with
  | tok n=>exact h.elim
  | dead=>exact h.elim
  | loop f t rf st=>exact h.elim
  | map kt ks vs bs c=>exact h.elim
  | dfb=>exact h.elim
  | cells cs =>
   obtain ⟨⟨rfl,hbx,hx⟩,h⟩:=h
   have hsz:=E.below.size
   refine ⟨⟨rfl,fun hp=>⟨Nat.lt_of_lt_of_le (hbx hp).1 hsz,fun off=>(hc b off ⟨rfl,hp⟩).2.trans ((hbx hp).2 off)⟩,fun j j1 j2=>?_⟩,fun j d hj=>?_⟩
   ·obtain ⟨⟨v,hv⟩,hf⟩:=hx j j1 j2
    obtain ⟨k1,k2⟩:=hc b (o+j) ⟨rfl,by omega⟩
    exact ⟨⟨v,k1.trans hv⟩,k2.trans hf⟩
   obtain ⟨v,h1,h2,h3,h4⟩:=h j d hj
   have hlt:j<cs.length:=(List.getElem?_eq_some_iff.1 hj).1
   obtain ⟨k1,k2⟩:=hc b (o+j) ⟨rfl,by omega⟩
   exact ⟨v,k1.trans h1,k2.trans h2,h3,E.rep h4⟩
 | tok r n =>
  cases s with
  | cells cs=>exact h.elim
  | dead=>exact h.elim
  | loop f t rf st=>exact h.elim
  | map kt ks vs bs c=>exact h.elim
  | dfb=>exact h.elim
  | tok m =>
   refine ⟨h.1,fun b e lim hr j h1 h2=>?_⟩
   subst hr
   obtain ⟨⟨v,hv⟩,hf⟩:=h.2 b e lim rfl j h1 h2
   obtain ⟨k1,k2⟩:=hc b j ⟨rfl,h1,h2⟩
   exact ⟨⟨v,k1.trans hv⟩,k2.trans hf⟩

theorem Inv.write {g:Gh} {A:St} {w w':World} (I:Inv g A w) (k:Nat) (hk:k<g.len)
  (os:w'.os=w.os) (tape:w'.tape=w.tape) (output:w'.output=w.output) (size:w.heap.size≤w'.heap.size)
  (blk:∀ b,b<w.heap.size→(∀ off,¬ (g.m k).owns b off)→w'.heap[b]?=w.heap[b]?)
  (cell:∀ b off,b<w.heap.size→¬ (g.m k).owns b off→w'.cell? ⟨b,off,none⟩=w.cell? ⟨b,off,none⟩∧w'.frozen? ⟨b,off,none⟩=w.frozen? ⟨b,off,none⟩) :
  Ext g w g w'∧∀ s,SlotOk g w' (g.m k) s→Inv g (A.set k s) w':=by
 have E:Ext g w g w':=by
  refine ⟨rfl,⟨os,tape,output,size,fun b hb=>?_⟩,fun _ _ h=>h,fun b off hs=>?_,Nat.le_refl _,fun _ _=>BindLe.refl _⟩
  ·exact blk b (Nat.lt_of_lt_of_le hb I.base) fun off ho=>I.own k b off hk ho (.inl hb)
  ·exact (cell b off (I.old b off hs) fun ho=>I.own k b off hk ho (.inr hs)).1
 refine ⟨E,fun s hs=>⟨by simpa using I.len,Nat.le_trans I.base size,fun j s' hj=>?_,I.sep,I.own,fun b off h=>Nat.lt_of_lt_of_le (I.old b off h) size⟩⟩
 rw [List.getElem?_set] at hj
 split at hj
 ·rename_i e
  subst e
  split at hj
  ·cases hj;exact hs
  ·cases hj
 ·rename_i hne
  have hj':j<g.len:=I.len ▸ (List.getElem?_eq_some_iff.1 hj).1
  refine (I.slot j s' hj).keep E (fun b off ho=>cell b off (I.lt hj' ho) fun ho'=>hne (I.sep k j b off hk hj' ho' ho)) fun l hl=>?_
  exact blk l (I.lt hj' (off:=0) (by rw [hl];rfl)) fun off ho'=>hne (I.sep k j l off hk hj' ho' (by rw [hl];rfl))

theorem Inv.bind_new {g:Gh} {A:St} {w:World} (I:Inv g A w) (bd:Bind) (s:Slot) (hs:SlotOk g w bd s)
  (hfree:∀ b off,bd.owns b off→¬ g.stab b off∧∀ k,k<g.len→¬ (g.m k).owns b off) :
  let g':Gh:={ g with len:=g.len+1,m:=upd g.m g.len bd }
  Ext g w g' w∧Inv g' (A++[s]) w:=by
 intro g'
 have hm:∀ k,k<g.len→g'.m k=g.m k:=fun k hk=>upd_ne _ _ (by omega)
 have E:Ext g w g' w:=⟨rfl,Below.refl _ _,fun _ _ h=>h,fun _ _ _=>rfl,Nat.le_succ _,fun k hk=>by rw [hm k hk];exact BindLe.refl _⟩
 have hown:∀ k b off,k<g.len+1→(g'.m k).owns b off→(k<g.len∧(g.m k).owns b off)∨(k=g.len∧bd.owns b off):=by
  intro k b off hk ho
  by_cases e:k=g.len
  ·subst e;exact .inr ⟨rfl,by simpa [g'] using ho⟩
  ·have:k<g.len:=by omega
   exact .inl ⟨this,hm k this ▸ ho⟩
 refine ⟨E,⟨by simp [g',I.len],I.base,fun k s' hk=>?_,fun k k' b off hk hk' h1 h2=>?_,fun k b off hk ho=>?_,I.old⟩⟩
 ·rw [List.getElem?_append] at hk
  split at hk
  ·rename_i h
   have h':k<g.len:=I.len ▸ h
   rw [hm k h']
   exact (I.slot k s' hk).keep E (fun _ _ _=>⟨rfl,rfl⟩) fun _ _=>rfl
  ·rename_i h
   have:k=g.len:=by
    have:=(List.getElem?_eq_some_iff.1 hk).1
    simp at this
    have:=I.len
    omega
   subst this
   rw [I.len] at hk
   simp at hk
   subst hk
   simp only [g',upd_same]
   exact hs.keep E (fun _ _ _=>⟨rfl,rfl⟩) fun _ _=>rfl
 ·rcases hown k b off hk h1 with ⟨a1,a2⟩|⟨a1,a2⟩<;>rcases hown k' b off hk' h2 with ⟨c1,c2⟩|⟨c1,c2⟩
  ·exact I.sep k k' b off a1 c1 a2 c2
  ·exact ((hfree b off c2).2 k a1 a2).elim
  ·exact ((hfree b off a2).2 k' c1 c2).elim
  ·omega
 ·rcases hown k b off hk ho with ⟨a1,a2⟩|⟨a1,a2⟩
  ·exact I.own k b off a1 a2
  ·exact (hfree b off a2).1

theorem Inv.bind_set {g:Gh} {A:St} {w:World} (I:Inv g A w) (k:Nat) (hk:k<g.len) (bd:Bind) (s:Slot) (hs:SlotOk g w bd s) (le:BindLe (g.m k) bd)
  (hfree:∀ b off,bd.owns b off→¬ g.stab b off∧∀ j,j<g.len→j≠k→¬ (g.m j).owns b off) :
  let g':Gh:={ g with m:=upd g.m k bd }
  Ext g w g' w∧Inv g' (A.set k s) w:=by
 intro g'
 have hm:∀ j,j≠k→g'.m j=g.m j:=fun j hj=>upd_ne _ _ hj
 have E:Ext g w g' w:=⟨rfl,Below.refl _ _,fun _ _ h=>h,fun _ _ _=>rfl,Nat.le_refl _,fun j hj=>by
  by_cases e:j=k
  ·subst e;simpa [g'] using le
  ·rw [hm j e];exact BindLe.refl _⟩
 have hown:∀ j b off,j<g.len→(g'.m j).owns b off→(j≠k∧(g.m j).owns b off)∨(j=k∧bd.owns b off):=by
  intro j b off hj ho
  by_cases e:j=k
  ·subst e;exact .inr ⟨rfl,by simpa [g'] using ho⟩
  ·exact .inl ⟨e,hm j e ▸ ho⟩
 refine ⟨E,⟨by simpa [g'] using I.len,I.base,fun j s' hj=>?_,fun j j' b off hj hj' h1 h2=>?_,fun j b off hj ho=>?_,I.old⟩⟩
 ·rw [List.getElem?_set] at hj
  split at hj
  ·rename_i e
   subst e
   split at hj
   ·cases hj
    simp only [g',upd_same]
    exact hs.keep E (fun _ _ _=>⟨rfl,rfl⟩) fun _ _=>rfl
   ·cases hj
  ·rename_i e
   rw [hm j (fun h=>e h.symm)]
   exact (I.slot j s' hj).keep E (fun _ _ _=>⟨rfl,rfl⟩) fun _ _=>rfl
 ·rcases hown j b off hj h1 with ⟨a1,a2⟩|⟨a1,a2⟩<;>rcases hown j' b off hj' h2 with ⟨c1,c2⟩|⟨c1,c2⟩
  ·exact I.sep j j' b off hj hj' a2 c2
  ·exact ((hfree b off c2).2 j hj a1 a2).elim
  ·exact ((hfree b off a2).2 j' hj' c1 c2).elim
  ·omega
 ·rcases hown j b off hj ho with ⟨a1,a2⟩|⟨a1,a2⟩
  ·exact I.own j b off hj a2
  ·exact (hfree b off a2).1

theorem Inv.stab_add {g:Gh} {A:St} {w:World} (I:Inv g A w) (T:Nat→Nat→Prop) (h:∀ b off,T b off→b<w.heap.size∧∀ k,k<g.len→¬ (g.m k).owns b off) :
  let g':Gh:={ g with S:=fun b off=>g.S b off∨T b off }
  Ext g w g' w∧Inv g' A w:=by
 intro g'
 have E:Ext g w g' w:=⟨rfl,Below.refl _ _,fun _ _ h=>.inl h,fun _ _ _=>rfl,Nat.le_refl _,fun j hj=>BindLe.refl _⟩
 refine ⟨E,⟨I.len,I.base,fun j s' hj=>(I.slot j s' hj).keep E (fun _ _ _=>⟨rfl,rfl⟩) fun _ _=>rfl,I.sep,fun k b off hk ho hst=>?_,fun b off hs=>?_⟩⟩
 ·rcases hst with hb|hs|ht
  ·exact I.own k b off hk ho (.inl hb)
  ·exact I.own k b off hk ho (.inr hs)
  ·exact (h b off ht).2 k hk ho
 ·exact hs.elim (I.old b off) fun ht=>(h b off ht).1

theorem Inv.drew {g:Gh} {A:St} {w:World} (I:Inv g A w):Ext g w g w.drew∧Inv g A w.drew:=by
 have E:Ext g w g w.drew:=⟨rfl,(Below.refl _ _).drew,fun _ _ h=>h,fun _ _ _=>rfl,Nat.le_refl _,fun _ _=>BindLe.refl _⟩
 exact ⟨E,⟨I.len,I.base,fun j s' hj=>(I.slot j s' hj).keep E (fun _ _ _=>⟨rfl,rfl⟩) fun _ _=>rfl,I.sep,I.own,I.old⟩⟩

theorem Inv.alloc {g:Gh} {A:St} {w:World} (I:Inv g A w) (c:Array Value) (elem:TypeId) (fz:Nat×Nat) :
  Ext g w g (w.alloc (.cells c elem fz))∧Inv g A (w.alloc (.cells c elem fz)) ∧
  (∀ off,¬ g.stab w.heap.size off)∧(∀ k off,k<g.len→¬ (g.m k).owns w.heap.size off):=by
 have E:Ext g w g (w.alloc (.cells c elem fz)):=by
  refine ⟨rfl,(Below.refl _ _).alloc I.base _,fun _ _ h=>h,fun b off hs=>?_,Nat.le_refl _,fun _ _=>BindLe.refl _⟩
  exact World.cell?_alloc_lt w _ ⟨b,off,none⟩ (I.old b off hs)
 refine ⟨E,⟨I.len,by simpa using Nat.le_succ_of_le I.base,fun j s' hj=>(I.slot j s' hj).keep E (fun b off ho=>?_) fun l hl=>?_,I.sep,I.own,fun b off hs=>by simpa using Nat.lt_succ_of_lt (I.old b off hs)⟩,fun off h=>?_,fun k off hk h=>?_⟩
 ·have hb:b<w.heap.size:=I.lt (I.len ▸ (List.getElem?_eq_some_iff.1 hj).1) ho
  exact ⟨World.cell?_alloc_lt w _ ⟨b,off,none⟩ hb,World.frozen?_alloc_old w _ ⟨b,off,none⟩ (Nat.ne_of_lt hb)⟩
 ·have hb:l<w.heap.size:=I.lt (off:=0) (I.len ▸ (List.getElem?_eq_some_iff.1 hj).1) (by rw [hl];rfl)
  exact Below.heap_alloc w _ l hb
 ·exact absurd (I.stab_lt h) (Nat.lt_irrefl _)
 ·exact absurd (I.lt hk h) (Nat.lt_irrefl _)

theorem Inv.alloc_stab {g:Gh} {A:St} {w:World} (I:Inv g A w) (c:Array Value) (elem:TypeId) (fz:Nat×Nat) (n:Nat) :
  ∃ g',Ext g w g' (w.alloc (.cells c elem fz))∧Inv g' A (w.alloc (.cells c elem fz))∧(∀ off,off<n→g'.stab w.heap.size off)∧(∀ off,g'.stab w.heap.size off→off<n)∧g'.m=g.m∧g'.len=g.len:=by
 obtain ⟨E1,I1,h1,h2⟩:=I.alloc c elem fz
 obtain ⟨E2,I2⟩:=I1.stab_add (fun b off=>b=w.heap.size∧off<n) fun b off ⟨hb,ho⟩=>by
  subst hb;exact ⟨by simp,fun k hk=>h2 k off hk⟩
 exact ⟨_,E1.trans E2,I2,fun off ho=>.inr (.inr ⟨rfl,ho⟩),fun off h=>by
  rcases h with h|h|h
  ·exact (h1 off (.inl h)).elim
  ·exact (h1 off (.inr h)).elim
  ·exact h.2,rfl,rfl⟩

theorem Inv.alloc_varM {g:Gh} {A:St} {w:World} (I:Inv g A w) (c:Array Value) (elem:TypeId) (cs:List D) (hr:RepL g w cs c.toList) (h1:∀ v ∈ c,v.oneCell'=true) :
  ∃ g',Ext g w g' (w.alloc (.cells c elem))∧Inv g' (A++[.cells cs]) (w.alloc (.cells c elem))∧Rep g' (w.alloc (.cells c elem)) (.ref A.length 0) (.pointer (some ⟨w.heap.size,0,none⟩))∧g'.m A.length=.var w.heap.size 0 cs.length 0:=by
 obtain ⟨E1,I1,ha,hb⟩:=I.alloc c elem (0,0)
 obtain ⟨E2,I2⟩:=I1.bind_new (.var w.heap.size 0 cs.length 0) (.cells cs) ⟨⟨rfl,fun _=>⟨by simp,fun off=>by simp⟩,fun j h1 h2=>absurd h1 (by omega)⟩,fun j d hj=>by
  obtain ⟨v,hv,hrep⟩:=hr.get hj
  have hv':c[j]?=some v:=by simpa using hv
  refine ⟨v,by simpa using hv',by simp,h1 v (Array.mem_of_getElem? hv'),E1.rep hrep⟩⟩ fun b off ho=>by
  obtain ⟨rfl,_⟩:=ho
  exact ⟨ha off,fun k hk=>hb k off hk⟩
 refine ⟨_,E1.trans E2,I2, ?_,by rw [← I.len];simp⟩
 simp only [Rep]
 refine ⟨by simp [I.len],_,rfl,by rw [← I.len];simp,fun b o n x hm=>?_⟩
 rw [← I.len] at hm
 simp at hm
 obtain ⟨rfl,rfl,rfl,rfl⟩:=hm
 rfl

theorem Inv.alloc_var {g:Gh} {A:St} {w:World} (I:Inv g A w) (c:Array Value) (elem:TypeId) (cs:List D) (hr:RepL g w cs c.toList) (h1:∀ v ∈ c,v.oneCell'=true) :
  ∃ g',Ext g w g' (w.alloc (.cells c elem))∧Inv g' (A++[.cells cs]) (w.alloc (.cells c elem))∧Rep g' (w.alloc (.cells c elem)) (.ref A.length 0) (.pointer (some ⟨w.heap.size,0,none⟩)):=by
 obtain ⟨g',h1,h2,h3,_⟩:=I.alloc_varM c elem cs hr h1
 exact ⟨g',h1,h2,h3⟩

theorem SlotOk.shut {g g':Gh} {w:World} (K:Keeps g w g' w) {bd:Bind} {s:Slot} (h:SlotOk g w bd s):SlotOk g' w bd (s.shut g'.len):=by
 cases bd with
 | none=>cases s<;>first|exact h|exact h.elim
 | wait =>
  cases s<;>first|exact h.elim|skip
  rename_i cs
  have h:∀ n,D.shutL n cs=cs:=h
  show ∀ n,D.shutL n (D.shutL g'.len cs)=D.shutL g'.len cs
  intro n
  rw [h,h]
 | var b o n x =>
  cases s<;>first|exact h.elim|skip
  obtain ⟨⟨h0,hx⟩,h⟩:=h
  refine ⟨⟨by simp [h0],hx⟩,fun j d hj=>?_⟩
  rw [shutL_eq,List.getElem?_map] at hj
  simp only [Option.map_eq_some_iff] at hj
  obtain ⟨d0,hj,rfl⟩:=hj
  obtain ⟨v,h1,h2,h3,h4⟩:=h j d0 hj
  exact ⟨v,h1,h2,h3,Rep.keep K d0 v h4⟩
 | tok r n=>cases s<;>first|exact h.elim|exact h
 | obj l =>
  cases s<;>first|exact h.elim|skip
  ·obtain ⟨r,h1,h2,h3,h4⟩:=h
   exact ⟨r,h1,h2,RepL.keep K _ _ h3,h4⟩
  ·exact h
  ·obtain ⟨r,h1,h2,h3,h4⟩:=h
   exact ⟨r,h1,h2,RepL.keep K _ _ h3,h4⟩
theorem SlotOk.shut_id {g:Gh} {w:World} {bd:Bind} {s:Slot} (h:SlotOk g w bd s) {n:Nat} (hn:g.len≤n):s.shut n=s:=by
 cases s with
 | cells cs =>
  simp only [Slot.shut]
  cases bd with
  | none=>exact h.elim
  | wait=>congr 1;exact h _
  | tok r n=>exact h.elim
  | obj l=>exact h.elim
  | var b o n x =>
   obtain ⟨_,h0⟩:=h
   congr 1
   rw [shutL_eq]
   refine List.ext_getElem? fun j=>?_
   rw [List.getElem?_map]
   cases hj:cs[j]? with
   | none=>rfl
   | some d =>
    obtain ⟨v,_,_,_,hr⟩:=h0 j d hj
    simp [Rep.shut_id hn d v hr]
 | tok n=>rfl
 | dead=>rfl
 | dfb=>rfl
 | loop f t rf st =>
  cases bd with
  | obj l =>
   obtain ⟨r,h1,h2,h3,h4⟩:=h
   simp only [Slot.shut]
   rw [RepL.shut_id hn _ _ h3]
  | _=>exact h.elim
 | map kt ks vs bs c =>
  cases bd with
  | obj l =>
   obtain ⟨r,h1,h2,h3,h4⟩:=h
   simp only [Slot.shut]
   rw [RepL.shut_id hn _ _ h3]
  | _=>exact h.elim

theorem Inv.close {g g1:Gh} {A A1 B:St} {w w1:World} (I:Inv g A w) (E:Ext g w g1 w1) (I1:Inv g1 A1 w1) (hB:B.length=A.length)
  (hs:∀ (k:Nat) s,B[k]?=some s→∃ s1,A1[k]?=some s1∧(s=s1.shut A.length)) :
  let g':Gh:={ g1 with len:=g.len }
  Ext g w g' w1∧Inv g' B w1∧Keeps g1 w1 g' w1:=by
 intro g'
 have E':Ext g w g' w1:=⟨E.base,E.below,E.stabS,E.cellS,Nat.le_refl _,E.bind⟩
 have K:Keeps g1 w1 g' w1:=⟨fun _ _ h=>h,fun _ _ _=>rfl,fun _ _ _=>.inl (BindLe.refl _)⟩
 have hl:A.length=g.len:=I.len.symm
 refine ⟨E',⟨by rw [hB];exact I.len,I1.base,fun k s hk=>?_,fun k k' b off h1 h2=>I1.sep k k' b off (Nat.lt_of_lt_of_le h1 E.len) (Nat.lt_of_lt_of_le h2 E.len),fun k b off h=>I1.own k b off (Nat.lt_of_lt_of_le h E.len),I1.old⟩,K⟩
 obtain ⟨s1,h1,rfl⟩:=hs k s hk
 have:=(I1.slot k s1 h1).shut K
 rw [hl]
 exact this
theorem Inv.trunc {g g1:Gh} {A A1:St} {w w1:World} (I:Inv g A w) (E:Ext g w g1 w1) (I1:Inv g1 A1 w1) (hk:Kept A A1) :
  let g':Gh:={ g1 with len:=g.len }
  Ext g w g' w1∧Inv g' (A1.take A.length) w1∧Keeps g1 w1 g' w1:=by
 refine I.close E I1 (by simp [hk.1]) fun k s hs=>?_
 rw [List.getElem?_take] at hs
 split at hs
 ·rename_i hlt
  refine ⟨s,hs, ?_⟩
  rcases hk.2 k hlt with h|⟨s',h,h'⟩
  ·rw [hs] at h
   exact ((I.slot k s h.symm).shut_id (Nat.le_of_eq I.len)).symm
  ·rw [hs] at h;cases h;exact h'.symm
 ·cases hs
theorem closeSt_len (A A':St):(closeSt A A').length=A.length:=by simp [closeSt]
theorem Inv.closeSt {g g1:Gh} {A A1:St} {w w1:World} (I:Inv g A w) (E:Ext g w g1 w1) (I1:Inv g1 A1 w1) :
  let g':Gh:={ g1 with len:=g.len }
  Ext g w g' w1∧Inv g' (Vm.closeSt A A1) w1∧Keeps g1 w1 g' w1:=by
 refine I.close E I1 (closeSt_len _ _) fun k s hs=>?_
 have hlt:k<A.length:=by have:=(List.getElem?_eq_some_iff.1 hs).1;rwa [closeSt_len] at this
 have hlt1:k<A1.length:=by have:=E.len;have:=I.len;have:=I1.len;omega
 simp only [Vm.closeSt,List.getElem?_map,List.getElem?_range hlt,Option.map_some,Option.some.injEq] at hs
 refine ⟨A1[k],by simp [hlt1], ?_⟩
 split at hs
 ·rename_i h
  have e:A[k]=A1[k]:=by
   have:some A1[k]=some A[k]:=by rw [← List.getElem?_eq_getElem hlt1,← List.getElem?_eq_getElem hlt];exact h
   simpa using this.symm
  rw [List.getD_eq_getElem?_getD,List.getElem?_eq_getElem hlt,Option.getD_some] at hs
  rw [← e,← hs]
  exact ((I.slot k A[k] (by simp [hlt])).shut_id (Nat.le_of_eq I.len)).symm
 ·rw [List.getD_eq_getElem?_getD,List.getElem?_eq_getElem hlt1,Option.getD_some] at hs
  exact hs.symm
theorem Inv.alloc_obj {g:Gh} {A:St} {w:World} (I:Inv g A w) (o:Obj) (s:Slot) (hs:∀ g':Gh,Ext g w g' (w.alloc o)→SlotOk g' (w.alloc o) (.obj w.heap.size) s) :
  ∃ g',Ext g w g' (w.alloc o)∧Inv g' (A++[s]) (w.alloc o)∧g'.m g.len=.obj w.heap.size∧g'.len=g.len+1:=by
 have E:Ext g w g (w.alloc o):=by
  refine ⟨rfl,(Below.refl _ _).alloc I.base _,fun _ _ h=>h,fun b off hs=>?_,Nat.le_refl _,fun _ _=>BindLe.refl _⟩
  exact World.cell?_alloc_lt w _ ⟨b,off,none⟩ (I.old b off hs)
 have I1:Inv g A (w.alloc o):=by
  refine ⟨I.len,by simpa using Nat.le_succ_of_le I.base,fun j s' hj=>(I.slot j s' hj).keep E (fun b off ho=>?_) fun l hl=>?_,I.sep,I.own,fun b off hs=>by simpa using Nat.lt_succ_of_lt (I.old b off hs)⟩
  ·have hb:b<w.heap.size:=I.lt (I.len ▸ (List.getElem?_eq_some_iff.1 hj).1) ho
   exact ⟨World.cell?_alloc_lt w _ ⟨b,off,none⟩ hb,World.frozen?_alloc_old w _ ⟨b,off,none⟩ (Nat.ne_of_lt hb)⟩
  ·have hb:l<w.heap.size:=I.lt (off:=0) (I.len ▸ (List.getElem?_eq_some_iff.1 hj).1) (by rw [hl];rfl)
   exact Below.heap_alloc w _ l hb
 obtain ⟨E2,I2⟩:=I1.bind_new (.obj w.heap.size) s (hs g E) fun b off ho=>by
  obtain ⟨rfl,_⟩:=ho
  exact ⟨fun h=>absurd (I.stab_lt h) (Nat.lt_irrefl _),fun k hk h=>absurd (I.lt hk h) (Nat.lt_irrefl _)⟩
 exact ⟨_,E.trans E2,I2,by simp,rfl⟩
end Go.Vm

/- Each pure operation gives what the abstract interpreter says. -/
namespace Go.Vm
open Go.RowKit

variable {P:Program}

theorem tySize_some {t:TypeId} {n:Nat} (h:tySize P t=some n) (w:World):(sizeOf t).run P w=.ok n w:=by
 simp only [tySize,Option.map_eq_some_iff] at h
 obtain ⟨i,hi,rfl⟩:=h
 simp [sizeOf,typeInfo,hi]
theorem tyAgg_some {t:TypeId} {g:Bool} (h:tyAgg P t=some g) (w:World):(isAgg t).run P w=.ok g w:=by
 simp only [tyAgg,Option.map_eq_some_iff] at h
 obtain ⟨d,hd,rfl⟩:=h
 simp only [isAgg,Sem.run_bind,run_underlying hd,Result.andThen_ok]
 cases d<;>rfl
theorem tyZero_some {t:TypeId} {z:Value} (h:tyZero P t=some z) (w:World):(zeroValue t).run P w=.ok z w:=by
 simp only [tyZero,Option.bind_eq_some_iff] at h
 obtain ⟨i,hi,hz⟩:=h
 simp [zeroValue,typeInfo,hi,hz]
theorem run_part {t:TypeId} {g:Bool} {n off:Nat} (hg:tyAgg P t=some g) (hn:tySize P t=some n) {cs:List D} {d:D} (h:ofCells g cs off n=some d)
  {gh:Gh} {w:World} {vs:Array Value} (hr:RepL gh w cs vs.toList):∃ v,(part t vs off).run P w=.ok v w∧Rep gh w d v:=by
 cases g with
 | true =>
  simp only [ofCells,cond_true] at h
  split at h
  ·rename_i hle
   cases h
   refine ⟨.agg (vs.extract off (off+n)), ?_, ?_⟩
   ·simp [part,tyAgg_some hg,tySize_some hn]
   ·simp only [Rep]
    refine ⟨_,rfl, ?_⟩
    have:=(hr.drop off).take n
    simpa [Array.toList_extract,List.extract_eq_take_drop] using this
  ·cases h
 | false =>
  simp only [ofCells,cond_false] at h
  obtain ⟨v,hv,hr⟩:=hr.get h
  have hv':vs[off]?=some v:=by simpa using hv
  exact ⟨v,by simp [part,tyAgg_some hg,hv'],hr⟩

theorem int?_rep {gh:Gh} {w:World} {d:D} {p:IntKind×Int} {v:Value} (h:d.int?=some p) (hr:Rep gh w d v):v=.int p.1 p.2:=by
 cases d<;>simp only [D.int?,reduceCtorEq,Option.some.injEq] at h
 subst h;simpa [Rep] using hr
theorem bool?_rep {gh:Gh} {w:World} {d:D} {b:Bool} {v:Value} (h:d.bool?=some b) (hr:Rep gh w d v):v=.bool b:=by
 cases d<;>simp only [D.bool?,reduceCtorEq,Option.some.injEq] at h
 subst h;simpa [Rep] using hr
theorem str?_rep {gh:Gh} {w:World} {d:D} {s:List UInt8} {v:Value} (h:d.str?=some s) (hr:Rep gh w d v):v=.string ⟨s.toArray⟩:=by
 cases d<;>simp only [D.str?,reduceCtorEq,Option.some.injEq] at h
 subst h
 simp only [Rep] at hr
 obtain ⟨x,rfl,h⟩:=hr
 congr 1
 cases x
 simp at h
 subst h
 rfl
theorem agg?_rep {gh:Gh} {w:World} {d:D} {cs:List D} {v:Value} (h:d.agg?=some cs) (hr:Rep gh w d v):∃ vs:Array Value,v=.agg vs∧RepL gh w cs vs.toList:=by
 cases d<;>simp only [D.agg?,reduceCtorEq,Option.some.injEq] at h
 subst h;simpa [Rep] using hr

theorem fold_set_splice (us:List Value):∀ (i:Nat) (off:Nat) (c:Array Value),off+i+us.length≤c.size →
  ((us.toArray.zipIdx i).foldl (fun cs (x:Value×Nat)=>cs.setIfInBounds (off+x.2) x.1) c).toList=c.toList.take (off+i)++us++c.toList.drop (off+i+us.length):=by
 induction us with
 | nil=>intro i off c h;rw [← Array.foldl_toList];simp
 | cons u us ih =>
  intro i off c h
  have e:((u::us).toArray.zipIdx i).foldl (fun cs (x:Value×Nat)=>cs.setIfInBounds (off+x.2) x.1) c =
    (us.toArray.zipIdx (i+1)).foldl (fun cs (x:Value×Nat)=>cs.setIfInBounds (off+x.2) x.1) (c.setIfInBounds (off+i) u):=by
   rw [← Array.foldl_toList,← Array.foldl_toList]
   simp [List.zipIdx_cons]
  rw [e,ih (i+1) off _ (by simp at h ⊢;omega)]
  simp at h
  apply List.ext_getElem?
  intro j
  simp only [Array.toList_setIfInBounds,List.getElem?_append,List.length_append,List.length_take,List.length_set,Array.length_toList,List.length_cons,List.getElem?_take,List.getElem?_drop,List.getElem?_set]
  have h1:min (off+(i+1)) c.size=off+i+1:=by omega
  have h2:min (off+i) c.size=off+i:=by omega
  rw [h1,h2]
  by_cases c1:j<off+i
  ·simp [show j<off+i+1+us.length by omega,show j<off+i+1 by omega,show j<off+i+(us.length+1) by omega,c1,show ¬ off+i=j by omega]
   omega
  ·by_cases c2:j=off+i
   ·subst c2
    simp [show off+i<off+i+1+us.length by omega,show off+i<c.size by omega]
   ·by_cases c3:j<off+i+1+us.length
    ·have:j - (off+i)=(j - (off+i+1))+1:=by omega
     simp [c3,c1,show ¬ j<off+i+1 by omega,show j<off+i+(us.length+1) by omega,this]
    ·simp [c3,show ¬ j<off+i+(us.length+1) by omega]
     have e1:off+(i+1)+us.length+(j - (off+i+1+us.length))=j:=by omega
     have e2:off+i+(us.length+1)+(j - (off+i+(us.length+1)))=j:=by omega
     rw [e1,e2,if_neg (by omega)]
theorem splice_rep {gh:Gh} {w:World} {cs vs:List D} {us zs:List Value} (h:RepL gh w cs zs) (k:RepL gh w vs us) (off:Nat) :
  RepL gh w (splice cs off vs) (zs.take off++us++zs.drop (off+us.length)):=by
 unfold splice
 rw [k.length]
 exact ((h.take off).append k).append (h.drop _)

theorem fill_sim {gh:Gh} {w:World} {fs:Array Field} {place:Nat→Option (Nat×Nat)} :
  ∀ (parts:List (Nat×D)) (vs:List (Nat×Value)) (cs cs':List D) (zs:Array Value),
  (∀ (i:Nat) f n,fs[i]?=some f→tySize P f.type=some n→place i=some (f.offset,n)) →
  fillD P fs cs parts=some cs'→parts.map (·.1)=vs.map (·.1)→RepL gh w (parts.map (·.2)) (vs.map (·.2))→RepL gh w cs zs.toList →
  ∃ zs',Instr.fill place zs vs=some zs'∧RepL gh w cs' zs'.toList
 | [],vs,cs,cs',zs,hp,h,h1,h2,h3=>by
  cases vs with
  | nil=>simp only [fillD,Option.some.injEq] at h;subst h;exact ⟨zs,rfl,h3⟩
  | cons=>simp at h1
 | (i,d)::parts,[],cs,cs',zs,hp,h,h1,h2,h3=>by simp at h1
 | (i,d)::parts,(i',v)::vs,cs,cs',zs,hp,h,h1,h2,h3=>by
  simp only [List.map_cons,List.cons.injEq] at h1
  obtain ⟨rfl,h1⟩:=h1
  simp only [List.map_cons,RepL] at h2
  obtain ⟨v',r,he,hv,h2⟩:=h2
  cases he
  simp only [fillD,layCells,Option.bind_eq_some_iff] at h
  obtain ⟨f,hf,n,hn,g,hg,cs1,⟨us,hu,h1'⟩,h⟩:=h
  split at h1'
  ·rename_i hlen
   cases h1'
   have hu':=cellsT_rep hu hv
   have hsz:v.cells.size=n:=by rw [← hlen.1,hu'.length,Array.length_toList]
   have hzl:cs.length=zs.size:=by rw [h3.length,Array.length_toList]
   have hps:=hp i f n hf hn
   have hfold:=fold_set_splice v.cells.toList 0 f.offset zs (by rw [Array.length_toList,hsz];omega)
   have key:RepL gh w (splice cs f.offset us) ((v.cells.zipIdx.foldl (fun cs (x:Value×Nat)=>cs.setIfInBounds (f.offset+x.2) x.1) zs).toList):=by
    have:=splice_rep h3 hu' f.offset
    simp only [Array.toArray_toList,Nat.add_zero] at hfold
    rw [hfold]
    exact this
   obtain ⟨zs',h4,h5⟩:=fill_sim parts vs _ cs' _ hp h h1 h2 key
   refine ⟨zs', ?_,h5⟩
   rw [Instr.fill,hps]
   simp only
   rw [if_neg (by simp [hsz];omega)]
   exact h4
  ·cases h1'
theorem mapM_ok {α β:Type} (f:α→Sem β) (k:α→β) (w:World):∀ (l:List α),(∀ x ∈ l,(f x).run P w=.ok (k x) w)→(l.mapM f).run P w=.ok (l.map k) w
 | [],_=>by simp
 | x::l,h=>by
  simp [List.mapM_cons,h x (by simp),mapM_ok f k w l (fun y hy=>h y (by simp [hy]))]
theorem build_sim {gh:Gh} {w:World} {t:TypeId} {parts:List (Nat×D)} {d:D} (h:buildD P t parts=some d) {vs:Array (Nat×Value)}
  (h1:parts.map (·.1)=vs.toList.map (·.1)) (h2:RepL gh w (parts.map (·.2)) (vs.toList.map (·.2))) :
  ∃ v,(Instr.build t vs).run P w=.ok v w∧Rep gh w d v:=by
 simp only [buildD,Option.bind_eq_some_iff] at h
 obtain ⟨ut,hu,h⟩:=h
 cases ut<;>simp only [reduceCtorEq] at h
 case struct fs =>
  simp only [Option.bind_eq_some_iff] at h
  obtain ⟨z,hz,h⟩:=h
  split at h
  ·rename_i hall
   simp only [Option.map_eq_some_iff] at h
   obtain ⟨cs',hc,rfl⟩:=h
   have hz0:RepL gh w (z.cells.toList.map ofCell) z.cells.toList:=by
    have:=RepL.map (g:=gh) (w:=w) ofCell id z.cells.toList fun x _=>rep_ofCell gh w x
    simpa using this
   have hpl:∀ (i:Nat) f n,fs[i]?=some f→tySize P f.type=some n→((fs.map fun f=>(f.offset,((P.info? f.type).map (·.size)).getD 0))[i]?:Option (Nat×Nat))=some (f.offset,n):=by
    intro i f n hf hn
    simp only [tySize] at hn
    simp [Array.getElem?_map,hf,hn]
   obtain ⟨zs',h3,h4⟩:=fill_sim (place:=fun i=>(fs.map fun f=>(f.offset,((P.info? f.type).map (·.size)).getD 0))[i]?) parts vs.toList _ cs' z.cells hpl hc h1 h2 hz0
   refine ⟨.agg zs', ?_,by simp only [Rep];exact ⟨zs',rfl,h4⟩⟩
   have hm:(fs.mapM (m:=Sem) fun f=>do pure (f.offset,← sizeOf f.type)).run P w=.ok (fs.map fun f=>(f.offset,((P.info? f.type).map (·.size)).getD 0)) w:=by
    rw [← Array.toArray_toList (xs:=fs),List.mapM_toArray]
    simp only [Sem.run_map]
    rw [mapM_ok (P:=P) _ (fun f=>(f.offset,((P.info? f.type).map (·.size)).getD 0)) w fs.toList]
    ·simp only [Result.andThen_ok]
     congr 1
     apply Array.ext'
     simp
    ·intro f hf
     have:=Array.all_eq_true_iff_forall_mem.1 hall f (by simpa using hf)
     obtain ⟨i,hi⟩:=Option.isSome_iff_exists.1 this
     simp [sizeOf,typeInfo,hi]
   simp only [Instr.build,Sem.run_bind,tyZero_some hz,Result.andThen_ok,run_underlying hu,hm,h3]
   rfl
  ·cases h
end Go.Vm
