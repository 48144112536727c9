/- VmIns, VmFind, RxH, RxOk in one text. -/
import Derived.Test.YtagmpieoalkneaaGreatDoorVmSort
import Derived.Test.YtagmpieoalkneaaGreatDoorVmClosed
import Derived.Shelf.Spec.SlicesInsert
import Derived.Shelf.Spec.SlicesInsertGrow
import Derived.Shelf.Spec.SearchS
import Derived.Shelf.Strconv.Itoa3
import Derived.Test.YtagmpieoalkneaaGreatDoorVmNf
import Derived.Lib.Bytealg
import Derived.Test.YtagmpieoalkneaaGreatDoorProg
import Derived.KernelRfl
set_option linter.all false
/- slices.Insert of one text,over a variable. -/
namespace Go.Vm
open Go.RowKit Go.Shelf Go.Sort Go.Proofs
def insX:List D→St→ORes
 | [.vsl k off es len,.int .i64 i,.vsl kv voff ves vlen],A =>
  if off=0∧es=1∧voff=0∧ves=1∧vlen=1∧k≠kv∧0≤i∧i≤(len:Int)∧len≤1000000 then
   (A[k]?).bind fun s=>(A[kv]?).bind fun t=>match s,t with
    | .cells cs,.cells [.str x]=>if cs.length=len then (strsOf cs).map fun ss=>(.ret (.vsl A.length 0 1 (len+1)),A.set k .dead++[.cells ((ss.take i.toNat++x::ss.drop i.toNat).map .str)]) else none
    | _,_=>none
  else none
 | _,_=>none
section
variable {g:Gh} {A:St} {w w':World} {k b o n x:Nat}
theorem ins_tail (I:Inv g A w) (hk:k<g.len) (hnw:g.m k≠.wait) {g1:Gh} (E:Ext g w g w') {A1:St} (I1:Inv g A1 w') (hA1:A1.set k .dead=A.set k .dead) {nb no:Nat} {ys:List (List UInt8)} {x' cap:Nat}
  (hfr:∀ off,¬ g.stab nb off∧∀ j,j<g.len→j≠k→¬ (g.m j).owns nb off) (hs:nb<w'.heap.size) (hf:∀ off,w'.frozen? ⟨nb,off,none⟩=false)
  (hc:∀ j y,ys[j]?=some y→w'.cell? ⟨nb,no+j,none⟩=some (encStr y)) (hsp:∀ j,ys.length≤j→j<ys.length+x'→∃ v,w'.cell? ⟨nb,no+j,none⟩=some v) (hcap:ys.length≤cap) (hcb:cap≤9223372036854775807) (hcx:cap≤ys.length+x') :
  ∃ g',Ext g w g' w'∧Inv g' (A.set k .dead++[.cells (ys.map .str)]) w'∧Rep g' w' (.vsl A.length 0 1 ys.length) (.slice (some ⟨nb,no,none⟩) ys.length cap):=by
 obtain ⟨E2,I2⟩:=I1.bind_set k hk .none .dead trivial (.inr (.inl ⟨hnw,rfl⟩)) fun b' off h=>h.elim
 rw [hA1] at I2
 obtain ⟨E3,I3⟩:=I2.bind_new (.var nb no ys.length x') (.cells (ys.map .str)) ⟨⟨by simp,fun _=>⟨hs,hf⟩,fun j j1 j2=>⟨hsp j j1 j2,hf _⟩⟩,fun j d hj=>by
   simp only [List.getElem?_map,Option.map_eq_some_iff] at hj
   obtain ⟨y,hj,rfl⟩:=hj
   exact ⟨encStr y,hc j y hj,hf _,rfl,by simp [Rep]⟩⟩ fun b' off' ho=>by
  obtain ⟨rfl,_⟩:=ho
  refine ⟨(hfr off').1,fun j hj=>?_⟩
  show ¬ (upd g.m k .none j).owns _ _
  by_cases e:j=k
  ·subst e;simp [Bind.owns]
  ·rw [upd_ne _ _ e];exact (hfr off').2 j hj e
 refine ⟨_,(E.trans E2).trans E3,I3, ?_⟩
 have hA:A.length=g.len:=I.len.symm
 simp only [Rep]
 refine ⟨by rw [hA];exact Nat.lt_succ_self _,_,cap,rfl,⟨hcap,(fun e=>by cases e),hcb⟩, ?_,fun b' o' n' x'' hm'=>?_⟩
 ·rw [hA];show upd _ g.len _ g.len≠_;rw [upd_same];exact fun e=>by cases e
 ·rw [hA] at hm'
  change upd _ g.len _ g.len=_ at hm'
  rw [upd_same] at hm'
  cases hm'
  exact ⟨by omega,.inl rfl,fun _=>by omega⟩
theorem ins_fresh (I:Inv g A w) (hk:k<g.len) (hnw:g.m k≠.wait) (B:Below w.heap.size w w') {ys:List (List UInt8)} {x' cap:Nat}
  (hs:w.heap.size<w'.heap.size) (hf:∀ off,w'.frozen? ⟨w.heap.size,off,none⟩=false)
  (hc:∀ j y,ys[j]?=some y→w'.cell? ⟨w.heap.size,0+j,none⟩=some (encStr y)) (hsp:∀ j,ys.length≤j→j<ys.length+x'→∃ v,w'.cell? ⟨w.heap.size,0+j,none⟩=some v) (hcap:ys.length≤cap) (hcb:cap≤9223372036854775807) (hcx:cap≤ys.length+x') :
  ∃ g',Ext g w g' w'∧Inv g' (A.set k .dead++[.cells (ys.map .str)]) w'∧Rep g' w' (.vsl A.length 0 1 ys.length) (.slice (some ⟨w.heap.size,0,none⟩) ys.length cap):=by
 obtain ⟨E1,I1⟩:=I.below B
 exact ins_tail (g1:=g) I hk hnw E1 I1 rfl (fun off=>⟨fun h=>absurd (I.stab_lt h) (Nat.lt_irrefl _),fun j hj _ h=>absurd (I.lt hj h) (Nat.lt_irrefl _)⟩) hs hf hc hsp hcap hcb hcx
theorem ins_place (I:Inv g A w) (hk:k<g.len) (hm:g.m k=.var b o n x) {cs:List D} (hA:A[k]?=some (.cells cs)) (hp:0<n+x)
  (p1:w'.os=w.os) (p2:w'.tape=w.tape) (p3:w'.output=w.output) (hsz:w'.heap.size=w.heap.size) (hblk:∀ b',b'≠b→w'.heap[b']?=w.heap[b']?) (hfz:∀ off,w'.frozen? ⟨b,off,none⟩=w.frozen? ⟨b,off,none⟩)
  {ys:List (List UInt8)} {x' cap:Nat} (hny:n≤ys.length) (hxx:ys.length+x'=n+x)
  (hc:∀ j y,ys[j]?=some y→w'.cell? ⟨b,o+j,none⟩=some (encStr y)) (hsp:∀ j,ys.length≤j→j<ys.length+x'→∃ v,w'.cell? ⟨b,o+j,none⟩=some v) (hcap:ys.length≤cap) (hcb:cap≤9223372036854775807) (hcx:cap≤ys.length+x') :
  ∃ g',Ext g w g' w'∧Inv g' (A.set k .dead++[.cells (ys.map .str)]) w'∧Rep g' w' (.vsl A.length 0 1 ys.length) (.slice (some ⟨b,o,none⟩) ys.length cap):=by
 have hsl:=I.slot k _ hA
 rw [hm] at hsl
 obtain ⟨⟨hn,hbx,hx⟩,hcs⟩:=hsl
 obtain ⟨hb1,hb2⟩:=hbx hp
 have hown:∀ off,(g.m k).owns b off:=fun off=>by rw [hm];exact ⟨rfl,hp⟩
 have hfr:∀ off,w'.frozen? ⟨b,off,none⟩=false:=fun off=>(hfz off).trans (hb2 off)
 obtain ⟨E1,hI1⟩:=I.write (w':=w') k hk p1 p2 p3 (Nat.le_of_eq hsz.symm)
  (fun b' hb' hno=>hblk b' fun e=>hno 0 (e ▸ hown 0))
  (fun b' off' hb' hno=>cell_of_heap (hblk b' fun e=>hno (e ▸ hown off')) off')
 have I1:=hI1 (.cells ((ys.take n).map .str)) (by
  rw [hm]
  refine ⟨⟨by simp;omega,fun _=>⟨by omega,hfr⟩,fun j j1 j2=>⟨?_,hfr _⟩⟩,fun j d hj=>?_⟩
  ·rcases Nat.lt_or_ge j ys.length with h|h
   ·exact ⟨_,hc j ys[j] (List.getElem?_eq_getElem h)⟩
   ·exact hsp j h (by omega)
  ·simp only [List.getElem?_map,Option.map_eq_some_iff] at hj
   obtain ⟨y,hj,rfl⟩:=hj
   have hjn:j<n:=by
    have:=(List.getElem?_eq_some_iff.1 hj).1
    simp at this;omega
   rw [List.getElem?_take_of_lt hjn] at hj
   exact ⟨encStr y,hc j y hj,hfr _,rfl,by simp [Rep]⟩)
 have hnw:g.m k≠.wait:=by rw [hm];simp
 exact ins_tail (g1:=g) I hk hnw E1 I1 (by simp) (fun off=>⟨I.own k b off hk (hown off),fun j hj hne h=>hne (I.sep j k b off hj hk h (hown off))⟩) (by omega) hfr hc hsp hcap hcb hcx
end
theorem str_slot {g:Gh} {A:St} {w:World} {k b o n x:Nat} (I:Inv g A w) (hm:g.m k=.var b o n x) {ss:List (List UInt8)} (hA:A[k]?=some (.cells (ss.map .str))) :
  n=ss.length∧(0<n+x→b<w.heap.size∧∀ off,w.frozen? ⟨b,off,none⟩=false)∧(∀ j y,ss[j]?=some y→w.cell? ⟨b,o+j,none⟩=some (encStr y))∧∀ j,n≤j→j<n+x→∃ v,w.cell? ⟨b,o+j,none⟩=some v:=by
 have hsl:=I.slot k _ hA
 rw [hm] at hsl
 obtain ⟨⟨hn,hbx,hx⟩,hcs⟩:=hsl
 refine ⟨by simpa using hn,hbx,fun j y hj=>?_,fun j j1 j2=>(hx j j1 j2).1⟩
 obtain ⟨v,h1,h2,h3,h4⟩:=hcs j (.str y) (by simp [hj])
 simp only [Rep] at h4
 obtain ⟨z,rfl,hz⟩:=h4
 rw [h1,← hz]
theorem vsl_slot {g:Gh} {A:St} {w:World} (I:Inv g A w) {k len:Nat} {cs:List D} (hA:A[k]?=some (.cells cs)) {v:Value} (h:Rep g w (.vsl k 0 1 len) v) :
  k<g.len∧g.m k≠.wait∧∃ b o n x a cap,g.m k=.var b o n x∧v=.slice a len cap∧len≤cap∧(a=none→len=0)∧cap≤9223372036854775807∧(a=some ⟨b,o,none⟩∨(len=0∧cap=0))∧(len=n→cap≤len+x):=by
 simp only [Rep] at h
 obtain ⟨hk,a,cap,rfl,hcap,hnw,hv⟩:=h
 have hsl:=I.slot k _ hA
 cases hm:g.m k with
 | none=>rw [hm] at hsl;exact hsl.elim
 | tok r m=>rw [hm] at hsl;exact hsl.elim
 | obj l=>rw [hm] at hsl;exact hsl.elim
 | wait=>exact absurd hm hnw
 | var b o m x =>
 obtain ⟨v1,v2,v3⟩:=hv b o _ x hm
 exact ⟨hk,by simp,b,o,m,x,a,cap,rfl,rfl,hcap.1,hcap.2.1,hcap.2.2,by simpa using v2,fun h=>by have:=v3 (by omega);omega⟩
theorem shape_of_cell {w:World} {b off:Nat} {v:Value} (h:w.cell? ⟨b,off,none⟩=some v):∃ t n,w.shape? b=some (t,n)∧n≠0:=by
 obtain ⟨c,e,fr,h1,h2⟩:=cells_of_cell? h
 refine ⟨e,c.size,by simp [World.shape?,h1], ?_⟩
 have:=(Array.getElem?_eq_some_iff.1 h2).1
 omega
theorem ins_cells {W:World} {nb no i:Nat} {ss:List (List UInt8)} {x:List UInt8} (hi:i≤ss.length) (h1:∀ j y,j<i→ss[j]?=some y→W.cell? ⟨nb,no+j,none⟩=some (encStr y))
  (h2:W.cell? ⟨nb,no+i,none⟩=some (encStr x)) (h3:∀ j y,i≤j→ss[j]?=some y→W.cell? ⟨nb,no+(j+1),none⟩=some (encStr y)) :
  ∀ j y,(ss.take i++x::ss.drop i)[j]?=some y→W.cell? ⟨nb,no+j,none⟩=some (encStr y):=by
 intro j y hj
 have hl:(ss.take i).length=i:=by simp;omega
 rcases Nat.lt_trichotomy j i with h|h|h
 ·rw [List.getElem?_append_left (by omega),List.getElem?_take_of_lt h] at hj
  exact h1 j y h hj
 ·subst h
  rw [List.getElem?_append_right (by omega),hl,Nat.sub_self] at hj
  simp at hj
  subst hj
  exact h2
 ·obtain ⟨q,rfl⟩:∃ q,j=i+1+q:=⟨j - i - 1,by omega⟩
  rw [List.getElem?_append_right (by omega),hl,show i+1+q - i=q+1 by omega,List.getElem?_cons_succ,List.getElem?_drop] at hj
  have:=h3 (i+q) y (by omega) hj
  rw [show i+1+q=i+q+1 by omega]
  exact this
theorem ins_shift {w0:World} {nb no i:Nat} {ss:List (List UInt8)} {x:List UInt8} (hi:i≤ss.length) (hall:∀ j,j<ss.length+1→∃ v,w0.cell? ⟨nb,no+j,none⟩=some v)
  (hc:∀ j y,j<i→ss[j]?=some y→w0.cell? ⟨nb,no+j,none⟩=some (encStr y)) :
  ∀ j y,(ss.take i++x::ss.drop i)[j]?=some y→((w0.setCells nb (no+(i+1)) ((ss.map encStr).drop i)).setCells nb (no+i) [encStr x]).cell? ⟨nb,no+j,none⟩=some (encStr y):=by
 have hdl:((ss.map encStr).drop i).length=ss.length - i:=by simp
 have hin:∀ j,j<((ss.map encStr).drop i).length→(w0.cell? ⟨nb,no+(i+1)+j,none⟩).isSome=true:=fun j hj=>by
  obtain ⟨v,hv⟩:=hall (i+1+j) (by omega)
  rw [Nat.add_assoc,hv];rfl
 refine ins_cells hi (fun j y hj hy=>?_) ?_ (fun j y hj hy=>?_)
 ·rw [World.cell?_setCells_out _ _ _ _ _ (fun _ _=>.inl (by simp only;omega)),World.cell?_setCells_out _ _ _ _ _ (fun _ _=>.inl (by simp only;omega))]
  exact hc j y hj hy
 ·have:=World.cell?_setCells_in nb [encStr x] (no+i) (w0.setCells nb (no+(i+1)) ((ss.map encStr).drop i)) (fun j hj=>by
   have:j=0:=by simp at hj;omega
   subst this
   obtain ⟨v,hv⟩:=hall i (by omega)
   rw [World.cell?_setCells_out _ _ _ _ _ (fun _ _=>.inl (by simp only;omega)),Nat.add_zero,hv];rfl) 0 (by simp)
  simpa using this
 ·have hjl:=(List.getElem?_eq_some_iff.1 hy).1
  rw [World.cell?_setCells_out _ _ _ _ _ (fun _ _=>.inr (by simp;omega))]
  have:=World.cell?_setCells_in nb ((ss.map encStr).drop i) (no+(i+1)) w0 hin (j - i) (by omega)
  rw [show no+(i+1)+(j - i)=no+(j+1) by omega] at this
  rw [this]
  obtain ⟨h1,h2⟩:=List.getElem?_eq_some_iff.1 hy
  simp only [List.getElem_drop,List.getElem_map,Option.some.injEq]
  rw [← h2]
  congr 2
  omega
variable {P:Program}
theorem ins_sound {f:FuncId} {fn:Func} (hf:P.funcs[f]?=some fn) (hok:fnOk fn=true) {ρ:Ren} (L:Lays2.n22 P ρ) (hρ:ρ.f 22=f):∀ args A r,insX args A=some r→Sound P f args A r:=by
 intro args A r h
 unfold insX at h
 split at h
 case h_2=>cases h
 rename_i k off es len i kv voff ves vlen
 split at h
 case isFalse=>cases h
 rename_i hc
 obtain ⟨rfl,rfl,rfl,rfl,rfl,hne,hi0,hi1,hbig⟩:=hc
 simp only [Option.bind_eq_some_iff] at h
 obtain ⟨s,hs,t,ht,h⟩:=h
 split at h
 case h_2=>cases h
 rename_i cs x
 split at h
 case isFalse=>cases h
 rename_i hl
 simp only [Option.map_eq_some_iff] at h
 obtain ⟨ss,hss,rfl⟩:=h
 have:=strsOf_eq hss
 subst this
 have hl:ss.length=len:=by simpa using hl
 obtain ⟨i,rfl⟩:∃ m:Nat,i=m:=⟨i.toNat,by omega⟩
 rw [Int.toNat_natCast]
 have hil:i≤len:=by omega
 intro g w vs I hr
 left
 refine ⟨fnOk_run hf hok _ _, ?_⟩
 simp only [RepL] at hr
 obtain ⟨v,_,rfl,hv,v2,_,rfl,hv2,v3,_,rfl,hv3,rfl⟩:=hr
 simp only [Rep] at hv2
 subst hv2
 obtain ⟨hk,hnw,b,o,n,xs,a,cap,hm,rfl,hcap,han,hcb,ha,hcx⟩:=vsl_slot I hs hv
 obtain ⟨hkv,hnwv,vb,vo,vn,vx,va,vc,hmv,rfl,hvc,_,_,hva,_⟩:=vsl_slot I ht hv3
 have hva:va=some ⟨vb,vo,none⟩:=by
  rcases hva with h|h
  ·exact h
  ·omega
 subst hva
 obtain ⟨hn,hblk,hcell,hspare⟩:=str_slot I hm hs
 obtain ⟨hvn,hvblk,hvcell,_⟩:=str_slot (ss:=[x]) I hmv ht
 have hx0:=hvcell 0 x rfl
 have hvs:∀ j v,[encStr x][j]?=some v→w.cell? ⟨vb,vo+j,none⟩=some v:=by
  intro j v hj
  cases j with
  | zero=>simp at hj;subst hj;exact hx0
  | succ j=>simp at hj
 have h1v:∀ v ∈ [encStr x],v.oneCell'=true:=by intro v hv;simp at hv;subst hv;rfl
 have h1c:∀ v ∈ ss.map encStr,v.oneCell'=true:=by
  intro v hv
  obtain ⟨y,_,rfl⟩:=List.mem_map.1 hv
  rfl
 have hcs:∀ j v,(ss.map encStr)[j]?=some v→w.cell? ⟨b,o+j,none⟩=some v:=by
  intro j v hj
  simp only [List.getElem?_map,Option.map_eq_some_iff] at hj
  obtain ⟨y,hj,rfl⟩:=hj
  exact hcell j y hj
 have hcl:(ss.map encStr).length=len:=by simp [hl]
 obtain ⟨hvb1,hvb2⟩:=hvblk (by simp at hvn;omega)
 have hyl:(ss.take i++x::ss.drop i).length=len+1:=by simp;omega
 have hcx:=hcx (by omega)
 subst hρ
 have fin:∀ (w':World) (e:Ending) (ad:Addr) (c:Nat),e=.returned (.slice (some ad) (len+1) c) →
   (∃ g',Ext g w g' w'∧Inv g' (A.set k .dead++[.cells ((ss.take i++x::ss.drop i).map .str)]) w'∧Rep g' w' (.vsl A.length 0 1 (ss.take i++x::ss.drop i).length) (.slice (some ad) (ss.take i++x::ss.drop i).length c)) →
   ∃ g',Ext g w g' w'∧Inv g' (A.set k .dead++[.cells ((ss.take i++x::ss.drop i).map .str)]) w'∧EndOk g' w' (.ret (.vsl A.length 0 1 (len+1))) e:=by
  rintro w' e ad c rfl ⟨g',h1,h2,h3⟩
  rw [hyl] at h3
  exact ⟨g',h1,h2,h3⟩
 rcases Nat.lt_or_ge cap (len+1) with hroom|hroom
 ·-- no room
  have hG:=grownCap_ge w (len+1) cap (ρ.t 9)
  have hGm:grownCap w (len+1) cap (ρ.t 9)≤9223372036854775807:=grownCap_le_maxLen w (len+1) cap (ρ.t 9) (show _≤2 ^ 63 - 1 by omega)
  have hyy:ss.length=len:=hl
  rcases Nat.eq_or_lt_of_le hil with he|hlt
  ·have h:=Any2.slices_Insert_string_end_grow L a len cap vb vo 1 vc (ss.map encStr) [encStr x] w (by omega) hcap hroom (by omega) hcl rfl han (fun a' ha' j v hj=>by
    rcases ha with h|h
    ·rw [h] at ha'
     cases ha'
     rw [Addr.add_lit]
     exact hcs j v hj
    ·have:=(List.getElem?_eq_some_iff.1 hj).1
     simp at this
     omega) hvs h1v
   subst he
   refine h.mono ?_
   rintro e w' ⟨rfl,rfl⟩
   generalize grownCap w (i+1) cap (ρ.t 9)=G at hG hGm ⊢
   refine fin _ _ _ _ rfl ?_
   generalize hC:((ss.map encStr++[encStr x]).toArray++Builtin.zeroCells (Value.string ⟨#[]⟩).cells (G - (i+1)))=C
   have hCs:C.size=G:=by
    rw [← hC]
    simp [size_zeroCells,Value.cells]
    omega
   have hcc:∀ (j:Nat) (v:Value),(ss.map encStr++[encStr x])[j]?=some v→C[j]?=some v:=by
    intro j v hj
    have:=(List.getElem?_eq_some_iff.1 hj).1
    rw [← hC,Array.getElem?_append_left (by simpa using this)]
    simpa using hj
   have hnb:∀ j,(w.drew.alloc (.cells C (ρ.t 9))).cell? ⟨w.heap.size,j,none⟩=C[j]?:=fun j=>World.cell?_alloc_new w.drew _ _ _
   refine ins_fresh (x':=G - (i+1)) I hk hnw ((Below.refl w.heap.size w).drew.alloc (Nat.le_refl _) _) (by simp) (fun off=>World.frozen?_alloc_new w.drew _ _ _) ?_ (fun j j1 j2=>?_) (by omega) hGm (by omega)
   ·refine ins_cells (by omega) (fun j y hj hy=>?_) ?_ (fun j y hj hy=>?_)
    ·rw [hnb,Nat.zero_add]
     refine hcc _ _ ?_
     rw [List.getElem?_append_left (by simp;omega),List.getElem?_map,hy];rfl
    ·rw [hnb,Nat.zero_add]
     refine hcc _ _ ?_
     rw [List.getElem?_append_right (by simp;omega)]
     simp [hyy]
    ·have:=(List.getElem?_eq_some_iff.1 hy).1
     omega
   ·rw [hnb,Nat.zero_add]
    exact ⟨_,Array.getElem?_eq_getElem (by omega)⟩
  ·have ha:a=some ⟨b,o,none⟩:=by
    rcases ha with h|h
    ·exact h
    ·omega
   subst ha
   have h:=Any2.slices_Insert_string_grow L b o len cap i vb vo 1 vc (ss.map encStr) [encStr x] w hlt (by omega) hcap hroom (by omega) hcl rfl hcs hvs h1c h1v
   refine h.mono ?_
   rintro e w' ⟨rfl,rfl⟩
   generalize grownCap w (len+1) cap (ρ.t 9)=G at hG hGm ⊢
   refine fin _ _ _ _ rfl ?_
   generalize hC:(((ss.map encStr).take i).toArray++Builtin.zeroCells (Value.string ⟨#[]⟩).cells (len+1 - i)++Builtin.zeroCells (Value.string ⟨#[]⟩).cells (G - (len+1)))=C
   have hCs:C.size=G:=by
    rw [← hC]
    simp [size_zeroCells,Value.cells]
    omega
   have hcc:∀ (j:Nat) (y:List UInt8),j<i→ss[j]?=some y→C[j]?=some (encStr y):=by
    intro j y hj hy
    rw [← hC,Array.append_assoc,Array.getElem?_append_left (by simp;omega)]
    simp [List.getElem?_take_of_lt hj,hy]
   have hnb:∀ j,(w.alloc (.cells C (ρ.t 9))).cell? ⟨w.heap.size,j,none⟩=C[j]?:=fun j=>World.cell?_alloc_new w _ _ _
   have hall:∀ j,j<G→∃ v,(w.alloc (.cells C (ρ.t 9))).cell? ⟨w.heap.size,j,none⟩=some v:=fun j hj=>⟨_,(hnb j).trans (Array.getElem?_eq_getElem (by omega))⟩
   obtain ⟨p1,p2,p3⟩:=os_setCells w.heap.size [encStr x] i (w.alloc (.cells C (ρ.t 9))).drew
   obtain ⟨q1,q2,q3⟩:=os_setCells w.heap.size ((ss.map encStr).drop i) (i+1) ((w.alloc (.cells C (ρ.t 9))).drew.setCells w.heap.size i [encStr x]).drew
   have hdl:((ss.map encStr).drop i).length=len - i:=by simp [hyy]
   refine ins_fresh (x':=G - (len+1)) I hk hnw ⟨q1.trans p1,q2.trans p2,q3.trans p3, ?_,fun b' hb'=>?_⟩ ?_ (fun off=>?_) ?_ (fun j j1 j2=>?_) (by omega) hGm (by omega)
   ·rw [size_setCells]
    show w.heap.size≤((w.alloc (.cells C (ρ.t 9))).drew.setCells w.heap.size i [encStr x]).heap.size
    rw [size_setCells]
    simp
   ·rw [heap_setCells _ _ _ _ _ (Nat.ne_of_lt hb')]
    show ((w.alloc (.cells C (ρ.t 9))).drew.setCells w.heap.size i [encStr x]).heap[b']?=_
    rw [heap_setCells _ _ _ _ _ (Nat.ne_of_lt hb')]
    exact Below.heap_alloc w _ b' hb'
   ·rw [size_setCells]
    show w.heap.size<((w.alloc (.cells C (ρ.t 9))).drew.setCells w.heap.size i [encStr x]).heap.size
    rw [size_setCells]
    simp
   ·rw [World.frozen?_setCells]
    show ((w.alloc (.cells C (ρ.t 9))).drew.setCells w.heap.size i [encStr x]).frozen? _=_
    rw [World.frozen?_setCells]
    exact World.frozen?_alloc_new w _ _ _
   ·refine ins_cells (by omega) (fun j y hj hy=>?_) ?_ (fun j y hj hy=>?_)
    ·rw [World.cell?_setCells_out _ _ _ _ _ (fun _ _=>.inl (by simp only;omega))]
     show ((w.alloc (.cells C (ρ.t 9))).drew.setCells w.heap.size i [encStr x]).cell? _=_
     rw [World.cell?_setCells_out _ _ _ _ _ (fun _ _=>.inl (by simp only;omega))]
     exact ((hnb _).trans (by rw [Nat.zero_add];exact hcc j y hj hy))
    ·rw [World.cell?_setCells_out _ _ _ _ _ (fun _ _=>.inl (by simp only;omega)),Nat.zero_add]
     have:=World.cell?_setCells_in w.heap.size [encStr x] i (w.alloc (.cells C (ρ.t 9))).drew (fun j hj=>by
      obtain ⟨v,hv⟩:=hall (i+j) (by simp at hj;omega)
      have hv':(w.alloc (.cells C (ρ.t 9))).drew.cell? ⟨w.heap.size,i+j,none⟩=some v:=hv
      rw [hv'];rfl) 0 (by simp)
     simpa using this
    ·have hjl:=(List.getElem?_eq_some_iff.1 hy).1
     have:=World.cell?_setCells_in w.heap.size ((ss.map encStr).drop i) (i+1) ((w.alloc (.cells C (ρ.t 9))).drew.setCells w.heap.size i [encStr x]).drew (fun q hq=>by
      obtain ⟨v,hv⟩:=hall (i+1+q) (by omega)
      have hv':((w.alloc (.cells C (ρ.t 9))).drew.setCells w.heap.size i [encStr x]).drew.cell? ⟨w.heap.size,i+1+q,none⟩=some v:=by
       show ((w.alloc (.cells C (ρ.t 9))).drew.setCells w.heap.size i [encStr x]).cell? _=_
       rw [World.cell?_setCells_out _ _ _ _ _ (fun _ _=>.inr (by simp only [List.length_cons,List.length_nil];omega))]
       exact hv
      rw [hv'];rfl) (j - i) (by omega)
     rw [show i+1+(j - i)=0+(j+1) by omega] at this
     rw [this]
     obtain ⟨h1,h2⟩:=List.getElem?_eq_some_iff.1 hy
     simp only [List.getElem_drop,List.getElem_map,Option.some.injEq]
     rw [← h2]
     congr 2
     omega
   ·rw [World.cell?_setCells_out _ _ _ _ _ (fun _ _=>.inr (by simp;omega))]
    obtain ⟨v,hv⟩:=hall j (by omega)
    refine ⟨v, ?_⟩
    show ((w.alloc (.cells C (ρ.t 9))).drew.setCells w.heap.size i [encStr x]).cell? _=_
    rw [World.cell?_setCells_out _ _ _ _ _ (fun _ _=>.inr (by simp;omega)),Nat.zero_add]
    exact hv
 ·-- room
  have hpos:0<n+xs:=by omega
  obtain ⟨hb1,hb2⟩:=hblk hpos
  have ha:a=some ⟨b,o,none⟩:=by
   rcases ha with h|h
   ·exact h
   ·omega
  subst ha
  have hall:∀ j,j<n+xs→∃ v,w.cell? ⟨b,o+j,none⟩=some v:=fun j hj=>by
   rcases Nat.lt_or_ge j n with h|h
   ·exact ⟨_,hcell j ss[j] (List.getElem?_eq_getElem (by omega))⟩
   ·exact hspare j h hj
  rcases Nat.eq_or_lt_of_le hil with he|hlt
  ·have hdr:(ss.map encStr).drop i=[]:=List.drop_eq_nil_of_le (by simp;omega)
   have h:=Any2.slices_Insert_string_end_room L b o len cap vb vo 1 vc [encStr x] w (by omega) hroom hcb rfl (fun j hj=>by
    obtain ⟨v,hv⟩:=hall (len+j) (by omega)
    rw [Nat.add_assoc,hv];rfl) (fun j hj=>hb2 _) hvs h1v
   subst he
   refine h.mono ?_
   rintro e w' ⟨rfl,rfl⟩
   refine fin _ _ _ _ rfl ?_
   obtain ⟨p1,p2,p3⟩:=os_setCells b [encStr x] (o+i) w
   refine ins_place (x':=n+xs - (i+1)) I hk hm hs hpos p1 p2 p3 (size_setCells b _ _ _) (fun b' hb'=>heap_setCells b _ _ _ b' hb') (fun off=>World.frozen?_setCells b _ _ _ _) (by omega) (by omega) ?_ (fun j j1 j2=>?_) (by omega) hcb (by omega)
   ·have:=ins_shift (w0:=w) (nb:=b) (no:=o) (i:=i) (ss:=ss) (x:=x) (by omega) (fun j hj=>hall j (by omega)) (fun j y _ hy=>hcell j y hy)
    rw [hdr] at this
    exact this
   ·obtain ⟨v,hv⟩:=hall j (by omega)
    exact ⟨v,(World.cell?_setCells_out _ _ _ _ _ (fun _ _=>.inr (by simp;omega))).trans hv⟩
  ·have hvne:vb≠b:=fun e=>hne (I.sep k kv b 0 hk hkv (by rw [hm];exact ⟨rfl,hpos⟩) (by rw [hmv,← e];exact ⟨rfl,by simp at hvn;omega⟩))
   obtain ⟨tA,kA,hsa,hkA⟩:=shape_of_cell hx0
   obtain ⟨vv,hvv⟩:=hall 0 (by omega)
   obtain ⟨tB,kB,hsb,hkB⟩:=shape_of_cell hvv
   have h:=Any2.slices_Insert_string_shift L b o len cap i vb vo 1 vc (ss.map encStr) [encStr x] w hlt (by omega) hroom hcb hvne hcl rfl hcs (fun j hj=>by
    obtain ⟨v,hv⟩:=hall j (by omega)
    rw [hv];rfl) (fun j hj=>hb2 _) hvs h1c h1v tA tB kA kB hsa hsb hkB (hvb2 _) (hvb2 _)
   refine h.mono ?_
   rintro e w' ⟨rfl,rfl⟩
   refine fin _ _ _ _ rfl ?_
   obtain ⟨p1,p2,p3⟩:=os_setCells b ((ss.map encStr).drop i) (o+(i+1)) w.drew
   obtain ⟨q1,q2,q3⟩:=os_setCells b [encStr x] (o+i) (w.drew.setCells b (o+(i+1)) ((ss.map encStr).drop i))
   refine ins_place (x':=n+xs - (len+1)) I hk hm hs hpos (q1.trans p1) (q2.trans p2) (q3.trans p3) ((size_setCells b _ _ _).trans (size_setCells b _ _ _)) (fun b' hb'=>(heap_setCells b _ _ _ b' hb').trans (heap_setCells b _ _ _ b' hb')) (fun off=>(World.frozen?_setCells b _ _ _ _).trans (World.frozen?_setCells b _ _ _ _)) (by omega) (by omega) ?_ (fun j j1 j2=>?_) (by omega) hcb (by omega)
   ·exact ins_shift (w0:=w.drew) (nb:=b) (no:=o) (by omega) (fun j hj=>hall j (by omega)) (fun j y _ hy=>hcell j y hy)
   ·obtain ⟨v,hv⟩:=hall j (by omega)
    exact ⟨v,((World.cell?_setCells_out _ _ _ _ _ (fun _ _=>.inr (by simp;omega))).trans (World.cell?_setCells_out _ _ _ _ _ (fun _ _=>.inr (by simp;omega)))).trans hv⟩
end Go.Vm

/- slices.BinarySearch of texts over a variable;strconv.Itoa below a hundred. -/
namespace Go.Vm
open Go.RowKit Go.Shelf Go.Sort Go.Proofs
def bsAt (ss:List (List UInt8)) (x:List UInt8):Nat:=Lib.bsGo (fun t=>Op.bytesLess (ss.getD t []) x) ss.length 0 ss.length
def bsIs (ss:List (List UInt8)) (x:List UInt8):Bool:=decide (bsAt ss x<ss.length∧ss.getD (bsAt ss x) []=x)
def searchX:List D→St→ORes
 | [.vsl k off es len,.str x],A=>onStrs k off es len A fun ss=>some (.ret (.tup [.int .i64 (bsAt ss x:Nat),.bool (bsIs ss x)]),A)
 | _,_=>none
def itoaX:List D→St→ORes
 | [.int .i64 n],A=>if 0≤n∧n<100 then some (.ret (.str (Lib.decDigits n.toNat)),A) else none
 | _,_=>none
variable {P:Program}
theorem Inv.drewN {g:Gh} {A:St} {w:World} (I:Inv g A w) (q:Nat):Ext g w g (w.drewN q)∧Inv g A (w.drewN q):=I.below ⟨rfl,rfl,rfl,Nat.le_refl _,fun _ _=>rfl⟩
theorem itoa_sound {f:FuncId} {fn:Func} (hf:P.funcs[f]?=some fn) (hok:fnOk fn=true) {ρ:Ren} (L:Lays.n171 P ρ) (hρ:ρ.f 171=f):∀ args A r,itoaX args A=some r→Sound P f args A r:=by
 intro args A r h
 unfold itoaX at h
 split at h
 case h_2=>cases h
 rename_i n
 split at h
 case isFalse=>cases h
 rename_i hn
 cases h
 intro g w vs I hr
 left
 refine ⟨fnOk_run hf hok _ _, ?_⟩
 simp only [RepL] at hr
 obtain ⟨v,_,rfl,hv,rfl⟩:=hr
 simp only [Rep] at hv
 subst hv
 subst hρ
 obtain ⟨m,rfl⟩:∃ m:Nat,n=m:=⟨n.toNat,by omega⟩
 refine (Any.strconv_Itoa_small L m (by omega) w).mono ?_
 rintro e w' ⟨rfl,rfl⟩
 exact ⟨g,Ext.refl _ _,I,by simp [EndOk,Rep]⟩
theorem search_sound {f:FuncId} {fn:Func} (hf:P.funcs[f]?=some fn) (hok:fnOk fn=true) {ρ:Ren} (L:Lays2.n26 P ρ) (hρ:ρ.f 26=f):∀ args A r,searchX args A=some r→Sound P f args A r:=by
 intro args A r h
 unfold searchX at h
 split at h
 case h_2=>cases h
 rename_i k off es len x
 obtain ⟨rfl,rfl,hbig,ss,hA,hl,h⟩:=onStrs_eq h
 cases h
 intro g w vs I hr
 left
 refine ⟨fnOk_run hf hok _ _, ?_⟩
 simp only [RepL] at hr
 obtain ⟨v,_,rfl,hv,v2,_,rfl,hv2,rfl⟩:=hr
 simp only [Rep] at hv2
 obtain ⟨z,rfl,hz⟩:=hv2
 obtain ⟨hk,hnw,b,o,n,xs,a,cap,hm,rfl,hcap,han,hcb,ha,hcx⟩:=vsl_slot I hA hv
 obtain ⟨hn,hblk,hcell,hspare⟩:=str_slot I hm hA
 subst hρ
 have hzx:z.toList=x:=by rw [← hz,Lib.toList_data]
 by_cases h0:0<len
 ·have ha:a=some ⟨b,o,none⟩:=by
   rcases ha with h|h
   ·exact h
   ·omega
  subst ha
  have hSx:∀ j,(ByteArray.mk (ss.getD j []).toArray).toList=ss.getD j []:=fun j=>by rw [Lib.toList_data]
  refine (Any2.slices_BinarySearch_string L b o len cap (fun j=>⟨(ss.getD j []).toArray⟩) z w hbig (fun j hj=>by
   rw [hcell j (ss.getD j []) (by rw [List.getD_eq_getElem?_getD,List.getElem?_eq_getElem (by omega)];rfl)])).mono ?_
  rintro e w' ⟨rfl,q,rfl⟩
  obtain ⟨E,I'⟩:=I.drewN q
  refine ⟨g,E,I', ?_⟩
  simp only [hSx,hzx,EndOk,Rep,RepL]
  have hb:Lib.bsGo (fun t=>Op.bytesLess (ss.getD t []) x) len 0 len=bsAt ss x:=by unfold bsAt;rw [hl]
  refine ⟨_,rfl,_,_,rfl,by rw [hb],_,_,rfl, ?_,rfl⟩
  rw [hb]
  congr 1
  unfold bsIs
  rw [hl]
  congr 1
  apply propext
  constructor
  ·rintro ⟨h1,h2⟩
   have h3:=congrArg ByteArray.toList h2
   exact ⟨h1,(hSx _).symm.trans (h3.trans hzx)⟩
  ·rintro ⟨h1,h2⟩
   refine ⟨h1, ?_⟩
   have:z=⟨x.toArray⟩:=by rw [← hz]
   exact (congrArg (fun l:List UInt8=>ByteArray.mk l.toArray) h2).trans this.symm
 ·have:ss=[]:=List.length_eq_zero_iff.1 (by omega)
  subst this
  simp only [List.length_nil] at hl
  subst hl
  refine (Any2.slices_BinarySearch_string_empty L a cap z w).mono ?_
  rintro e w' ⟨rfl,rfl⟩
  refine ⟨g,Ext.refl _ _,I, ?_⟩
  simp [EndOk,Rep,RepL,bsAt,bsIs,Lib.bsGo]
end Go.Vm

/- The hints and the layouts of the texts. -/
namespace Go.Vm
def rxHint:FuncId→Hints
 | 5=>mkHints [] [(10,[3,7,10])] [] .can (canA:=true)
 | 6=>mkHints [] [(6,[0,9])] [] .can (canA:=true)
 | 8=>mkHints [(2,[(0,9)])] [(6,[2,3,4,5,22,23,24,25,26])] [] .can (canA:=true) (liveJ:=[(12,[2,3,4,5,9,10,22,23,24,25,26]),(14,[2,3,4,5,10,22,23,24,25,26])])
 | 9=>mkHints [(10,[(0,9)])] [(6,[6,10,11])] [] .can (canA:=true) (liveJ:=[(11,[6,10,11,12,13]),(14,[6,10,11,12,13])])
 | 10=>mkHints [] [(4,[0,1,5])] [] .can (canA:=true)
 | 12=>mkHints [(5,[(0,1)])] [(5,[0,5,13,14,15])] [] .can (canA:=true)
 | 13=>mkHints [] [(3,[0,3,4,5])] [] .can (canA:=true) (liveJ:=[(6,[0,3,4,5]),(8,[0,3,4,5])])
 | 14=>mkHints [] [(3,[1,3,37,38,39])] [] .can (canA:=true)
 | 15=>mkHints [(5,[(0,1)])] [(5,[0,5,6])] [] .can (canA:=true)
 | 18=>mkHints [(27,[(0,1)])] [(6,[1,5,29,30,31]),(16,[5,71,72,73]),(19,[5,71,72,73,77,78,79])] [] .can (canA:=true) (liveJ:=[(9,[1,5,7,29,30,31])])
 | 21=>mkHints [] [(11,[3,41,42,43])] [] .can (canA:=true)
 | 22=>mkHints [] [(12,[3,7,10])] [] .can (canA:=true)
 | 23=>mkHints [(7,[(0,1)]),(23,[(3,3)])] [(8,[6,7])] [] .can (canA:=true) (liveJ:=[(12,[])])
 | 24=>mkHints [] [] [] .can (canA:=true) (liveJ:=[(2,[]),(4,[0,1,2,3,5])])
 | 25=>mkHints [] [(14,[0,2,3,40,60])] [] .can (waitAl:=true) (canA:=true) (liveJ:=[(6,[0,2,3]),(17,[0,2,3,40,60]),(20,[0,2,3,40]),(26,[2,3,5,40])])
 | 29=>mkHints [] [(6,[0,6,7,8,9])] [6] .can (canA:=true) (liveJ:=[(13,[0,6,8,9])])
 | 30=>mkHints [] [(13,[0,2,3,4,40])] [] .can (canA:=true) (waitAl:=true) (liveJ:=[(5,[0,2,3,4,40]),(8,[0,2,3,4,40]),(10,[0,2,3,4]),(17,[0,2,3,4,40]),(23,[0,2,3,4,40]),(26,[0,2,3,4,40]),(28,[0,2,3,4,40]),(31,[2,3,40]),(34,[2,3,6,40])])
 | 31=>mkHints [] [(2,[0,1,5])] [] .can (canA:=true)
 | 32=>mkHints [] [] [] .can (canA:=true) (liveJ:=[(1,[])])
 | 34=>mkHints [] [(4,[0,22,23])] [] .can (canA:=true)
 | 38=>mkHints [] [(4,[0,1,12,13])] [] .can (canA:=true)
 | 40=>mkHints [] [(4,[0,1,5])] [] .can (canA:=true)
 | 41=>mkHints [] [(4,[2,3,5])] [] .can (canA:=true)
 | 45=>mkHints [] [(3,[0,4,7,8,9])] [3] .can (canA:=true) (liveJ:=[(8,[0,4,6,7,8,9])])
 | 46=>mkHints [] [(2,[0,4]),(8,[0,5,6])] [2,8] .can (canA:=true) (liveJ:=[(11,[0,5,6])])
 | 47=>mkHints [(17,[(0,1)])] [(3,[1,3,4]),(12,[3,7,11]),(15,[3,7,11,12])] [] .can (canA:=true) (liveJ:=[(6,[1,3,4])])
 | 48=>mkHints [] [(2,[0,3])] [] .can (canA:=true)
 | 49=>mkHints [] [(2,[0,3])] [] .can (canA:=true)
 | 50=>mkHints [] [(2,[0,3])] [] .can (canA:=true)
 | 52=>mkHints [] [(3,[1,3,27,28,29])] [] .can (canA:=true)
 | 54=>mkHints [] [(3,[0,3,9,10,11]),(11,[6,25,26,27])] [3,11] .own (canA:=true) (liveJ:=[(7,[0,3,9,10,11])])
 | 56=>mkHints [] [(4,[1,3]),(10,[1,5])] [] .can (canA:=true)
 | 57=>mkHints [] [] [] .keep (canA:=true)
 | 58=>mkHints [] [(2,[1,2,6])] [] .can (canA:=true)
 | 59=>mkHints [] [] [] .can (canA:=true) (liveJ:=[(4,[0,1,2,3,5])])
 | 60=>mkHints [] [] [] .keep (canA:=true)
 | 61=>mkHints [] [(0,[0])] [0] .keep (canA:=true) (liveJ:=[(6,[0,3])])
 | 62=>mkHints [] [] [] .can (canA:=true) (liveJ:=[(1,[0])])
 | 63=>mkHints [] [] [] .can (canA:=true) (liveJ:=[(3,[0,3])])
 | 65=>mkHints [(3,[(0,1000001)]),(30,[(0,2000001)])] [(2,[0,3])] [2] .frz (canA:=true) (liveJ:=[(4,[0,3,4]),(7,[0,3]),(9,[0,3])])
 | 66=>mkHints [] [] [] .can (canA:=true) (liveJ:=[(3,[0,1,5]),(5,[0,5])])
 | 67=>mkHints [] [] [] .can (canA:=true) (liveJ:=[(5,[2,3,4,6,25,26])])
 | 68=>mkHints [] [(2,[0,1,7,8])] [] .can (canA:=true)
 | 69=>mkHints [] [(3,[0,1,6,7])] [3] .can (canA:=true)
 | 71=>mkHints [] [] [] .can (canA:=true) (liveJ:=[(3,[0,3])])
 | 73=>mkHints [] [(2,[0,1,5])] [] .can (canA:=true)
 | 74=>mkHints [] [] [] .can (canA:=true) (liveJ:=[(3,[0,1,5]),(5,[0,5])])
 | 75=>mkHints [] [(2,[0,1,4,5])] [] .can (canA:=true) (liveJ:=[(5,[0,1,4,5]),(7,[0])])
 | 76=>mkHints [] [] [] .can (canA:=true) (liveJ:=[(4,[2,5,6,25])])
 | 79=>mkHints [] [] [] .can (canA:=true) (liveJ:=[(4,[0,3])])
 | 80=>mkHints [] [(1,[0,6,7,8]),(7,[0,18,19,20])] [] .can (canA:=true) (liveJ:=[(4,[0,6,7,8]),(10,[0,18,19,20])])
 | 81=>mkHints [] [(3,[1,10,11,12])] [] .can (canA:=true)
 | 82=>mkHints [] [(5,[1,2,9,10,23,24,25])] [] .can (canA:=true)
 | 84=>mkHints [] [(4,[1,2,15,16,17])] [] .can (canA:=true)
 | 86=>mkHints [] [(24,[5,65,66,67]),(13,[5,39,40,41])] [24,13] .own (canA:=true) (liveJ:=[(16,[5,7,39,40,41]),(32,[2,10]),(34,[2,10])])
 | 87=>mkHints [] [(5,[1,36,37,38])] [] .can (canA:=true)
 | 94=>mkHints [] [(5,[1,2,3,8,9,10])] [] .can (canA:=true) (liveJ:=[(10,[1,2,3,8,9,10])])
 | 95=>mkHints [] [(4,[1,2,5])] [] .can (canA:=true)
 | 96=>mkHints [] [(3,[1,3,4])] [] .can (canA:=true)
 | 97=>mkHints [] [(2,[0,1,7,8,9])] [] .can (canA:=true)
 | 98=>mkHints [] [(3,[1,3,10,11,12]),(8,[1,3,10,11,12,74,75,76])] [] .can (canA:=true)
 | 99=>mkHints [(5,[(0,1000001)])] [(5,[1,5,18,19,20])] [5] .frz (canA:=true) (liveJ:=[(3,[1,2,5])])
 | 100=>mkHints [] [] [] .can (canA:=true) (liveJ:=[(2,[0,1]),(5,[0])])
 | 101=>mkHints [] [(2,[0,1,7,8])] [] .can (canA:=true)
 | 103=>mkHints [] [(2,[0,1,5])] [] .can (canA:=true)
 | 104=>mkHints [] [(7,[1,2,5,7])] [] .can (canA:=true)
 | 105=>mkHints [] [(4,[1,2,3,7])] [4] .own (liveJ:=[(2,[1,2,3])])
 | 106=>mkHints [] [] [] .keep (canA:=true)
 | 108=>mkHints [] [(7,[3,4])] [] .can (canA:=true)
 | 109=>mkHints [] [(3,[0,1,6,7,8])] [] .can (canA:=true) (liveJ:=[(6,[0,1,6,7,8])])
 | 111=>mkHints [] [(5,[0,4,24,25])] [] .can (canA:=true)
 | 112=>mkHints [] [] [] .can (canA:=true) (liveJ:=[(4,[0,1,2,4])])
 | 113=>mkHints [] [(2,[0,2,3])] [2] .can (canA:=true)
 | 115=>mkHints [] [(6,[0,1,5])] [] .can (canA:=true)
 | 116=>mkHints [] [(5,[0,4,5])] [] .can (canA:=true)
 | 117=>mkHints [] [(2,[0,2,3,25])] [2] .can (canA:=true)
 | 118=>mkHints [] [] [] .can (canA:=true) (liveJ:=[(2,[4,25])])
 | 119=>mkHints [] [(4,[0,1,15,16])] [] .can (canA:=true)
 | 122=>mkHints [] [] [] .can (canA:=true) (liveJ:=[(7,[0,5,6])])
 | 125=>mkHints [] [(21,[3,7,9]),(15,[3,7,8])] [21,15] .own (canA:=true) (liveJ:=[(24,[3,7,9])])
 | 126=>mkHints [] [] [] .can (canA:=true) (liveJ:=[(4,[1,3,8,9]),(13,[1,3,56]),(14,[1,3,56])])
 | 130=>mkHints [] [(4,[0,3]),(9,[0,3,4,5])] [] .can (canA:=true) (liveJ:=[(12,[0,3,4,5])])
 | 132=>mkHints [] [(2,[0,1,5])] [] .can (canA:=true)
 | 134=>mkHints [] [(4,[0,1,5,6,7])] [4] .own (liveJ:=[(9,[0,1,5,6,7]),(13,[5])])
 | 135=>mkHints [] [(1,[0,2]),(5,[0,1,2,3])] [] .can (canA:=true)
 | 145=>mkHints [] [(3,[0,2,3,4])] [3] .can (canA:=true)
 | 147=>mkHints [] [(3,[0,4,5,8,9,10,25])] [3] .can (canA:=true) (liveJ:=[(6,[0,4,5,8,9,10,25])])
 | 149=>mkHints [] [(2,[0,3])] [] .can (canA:=true)
 | 150=>mkHints [] [(2,[0,2,3,25])] [2] .can (canA:=true)
 | 152=>mkHints [] [(5,[0,1,4,5,6,25])] [5] .can (canA:=true) (liveJ:=[(8,[0,1,4,5,6,25])])
 | 153=>mkHints [] [(2,[0,1,7,8])] [] .can (canA:=true)
 | 156=>mkHints [] [(1,[0,1,4])] [] .can (canA:=true) (liveJ:=[(14,[0,4,12]),(21,[0,4,12]),(26,[])])
 | 157=>mkHints [] [(18,[0,1,3,4,10,11,12,13,17]),(11,[0,1,3,4,10,11,12,13,14,15,16])] [] .can (canA:=true) (liveJ:=[(2,[0,1,2,3,4,10,11]),(6,[0,1,2,3,4,10,11,12,13]),(8,[0,3,4,10,11,12,13]),(26,[0,4,10,11,12,13])])
 | 158=>mkHints [] [(2,[0,1,5])] [] .can (canA:=true)
 | 159=>mkHints [] [(3,[3,6,7,8])] [] .can (canA:=true)
 | 162=>mkHints [] [(2,[0,1,7,8])] [] .can (canA:=true)
 | 163=>mkHints [] [(2,[0,1,2,3,8,9])] [] .can (canA:=true) (liveJ:=[(8,[0,1,2,3,8,9,10]),(12,[0,1,2,3,8,9,10,11,12]),(16,[0,1,2,3,8,9,10,11]),(25,[0,1,2,3,8,9])])
 | 166=>mkHints [] [(15,[0,1,5,6,7,8,9,10])] [] .can (canA:=true) (liveJ:=[(17,[0,1,5,6,7,8,9,10])])
 | 171=>mkHints [] [(2,[0,2,3,25])] [] .can (canA:=true) (liveJ:=[(8,[0,2,3,6]),(10,[0,2,3,6])])
 | 173=>mkHints [] [(2,[0,2,3,25])] [] .can (canA:=true) (liveJ:=[(6,[0,2,3,4,25]),(8,[0,2,3,4,25]),(10,[0,2,3,4,25])])
 | 176=>mkHints [] [] [] .can (canA:=true) (liveJ:=[(2,[0,2]),(5,[0,2]),(8,[0,2])])
 | 181=>mkHints [] [(1,[0,1,2,6]),(4,[0,1,2,6,7])] [] .can (canA:=true)
 | 182=>mkHints [] [(4,[0,6,7,8,9]),(8,[0,6,7,10])] [] .can (canA:=true)
 | 183=>mkHints [] [(5,[0,1,6,7,8,9])] [] .can (canA:=true) (liveJ:=[(2,[]),(9,[0,1,6,7,8,9,10])])
 | 184=>mkHints [] [] [] .can (canA:=true) (liveJ:=[(7,[9,11]),(8,[0,9,10,11,12])])
 | 185=>mkHints [] [(2,[0,6,7])] [] .can (canA:=true)
 | 186=>mkHints [] [(3,[0,1,2,7,8]),(5,[0,1,2,7,8]),(14,[0,1,2,7,8,9]),(20,[0,1,2,7,8,10])] [] .can (canA:=true) (liveJ:=[(13,[0,1,2,7,8]),(19,[0,1,2,7,8])])
 | 187=>mkHints [] [(3,[0,1,9,10]),(5,[0,1,9,10])] [] .can (canA:=true)
 | 188=>mkHints [] [(3,[0,1,10,11]),(5,[0,1,10,11]),(13,[0,1,10,11]),(15,[0,1,10,11])] [] .can (canA:=true)
 | 189=>mkHints [] [] [] .can (canA:=true) (liveJ:=[(2,[0,2]),(5,[0,2])])
 | 192=>mkHints [] [(5,[0,1,5,6,7,8,9]),(11,[0,1,5,6,7,8,10])] [] .can (canA:=true)
 | 194=>mkHints [] [(1,[0,2,3])] [] .can (canA:=true)
 | 195=>mkHints [] [] [] .can (canA:=true) (liveJ:=[(2,[0,2,25]),(18,[2,7,25])])
 | 199=>mkHints [] [(1,[0,2,3,8])] [] .can (canA:=true) (liveJ:=[(4,[0,2,3,8,9])])
 | 204=>mkHints [] [(3,[0,4,5]),(8,[4,6,7,8])] [] .can (canA:=true) (liveJ:=[(11,[4,6,7,8])])
 | 205=>mkHints [] [] [] .can (canA:=true) (liveJ:=[(3,[0,3])])
 | _=>mkHints [] [] [] .can (canA:=true)
def indexByteX (args:List D) (A:St):ORes :=
 match args with
 | [.str s,.int .u8 c]=>some (.ret (.int .i64 (Lib.indexByte s c.toNat.toUInt8)),A)
 | _=>none
def growX (es b:Nat) (args:List D) (A:St):ORes :=
 match args with
 | [.sl .full 0 [],.int .i64 n]=>if n<0 then none else if n=0 then some (.ret (.sl .full 0 []),A) else
  cond (roomOk n.toNat b) (some (.ret (.sl (.own A.length 0) es []),A++[.tok 0])) none
 | _=>none
def rxExt:FuncId→Option (List D→St→ORes)
 | 193=>some indexByteX
 | 100=>some (growX 1 16)
 | 129=>some sortX
 | 110=>some insX
 | 109=>some searchX
 | 42=>some itoaX
 | 130=>some compactX
 | _=>none
def rxH:Ext0:={ hint:=rxHint,ext:=rxExt }
def aliveX (args:List D) (A:St):ORes :=
 match args with
 | []=>some (.ret (.bool true),A)
 | _=>none
def rxExtA:FuncId→Option (List D→St→ORes)
 | 11=>some aliveX
 | f=>rxExt f
def rxA:Ext0:={ hint:=rxHint,ext:=rxExtA }
def kk:FuncId→KH
 | 6=>mkKH [(8,[9])] [(8,[(14,9),(18,9)])]
 | 7=>mkKH [(3,[1,8])] [(3,[(2,1),(9,8),(10,8)])]
 | 8=>mkKH [] [(3,[(0,3),(1,3),(1,4),(2,3),(2,4),(2,5)])]
 | 18=>mkKH [(12,[3,6])] [(12,[(5,3),(8,3),(8,6)])]
 | 24=>mkKH [] [(5,[(1,6),(3,6),(3,7),(5,6),(5,7),(5,8)])]
 | 25=>mkKH [(24,[11])] [(24,[(16,11)])]
 | 30=>mkKH [(31,[9])] [(15,[(1,3)]),(31,[(14,9)])]
 | 32=>mkKH [] [(2,[(5,10),(7,10),(7,13)])]
 | 47=>mkKH [(8,[3,4])] [(8,[(6,3),(6,4),(6,12),(9,12),(11,3),(11,4)])]
 | 53=>mkKH [(4,[1])] [(4,[(2,1)])]
 | 57=>mkKH [(4,[1])] [(4,[(2,1)])]
 | 59=>mkKH [] [(5,[(1,4),(3,4),(3,5)])]
 | 64=>mkKH [] [(3,[(3,12),(7,12),(11,12)])]
 | 72=>mkKH [] [(3,[(3,12),(7,12),(11,12)])]
 | 75=>mkKH [(4,[1])] [(4,[(6,1)])]
 | 76=>mkKH [] [(6,[(4,9),(8,9)])]
 | 98=>mkKH [] [(10,[(2,4)])]
 | 104=>mkKH [] [(1,[(1,8),(4,8),(6,8),(6,9)])]
 | 112=>mkKH [] [(5,[(2,5),(4,5),(4,6)])]
 | 127=>mkKH [(1,[4])] [(1,[(6,4),(8,4)])]
 | _=>mkKH [] []
end Go.Vm

/- The regions of all functions may draw;how keys are. -/
namespace Go.Vm.Rx
open Go.Proofs
set_option maxRecDepth 100000
theorem okAll:((List.range 207).all fun f=>okF Tryz.prog rxHint kk f)=true:=by kernel_rfl
theorem okf {f:FuncId} (h:Nat.blt f 207=true):okF Tryz.prog rxHint kk f=true :=
 List.all_eq_true.1 okAll f (List.mem_range.2 (by rwa [Nat.blt_eq] at h))
@[go_sem] theorem kk189:keyK (P:=Tryz.prog) 189=some (.a [.int .i64,.str]):=by show keyKind Tryz.prog 189=_;kernel_rfl
end Go.Vm.Rx
