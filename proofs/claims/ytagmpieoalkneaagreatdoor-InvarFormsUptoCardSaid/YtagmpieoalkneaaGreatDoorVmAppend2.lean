/- VmAppend, VmAppendV, VmAppend2 in one text. -/
import Derived.Test.YtagmpieoalkneaaGreatDoorVmWorld2
set_option linter.all false
/- append. -/
namespace Go.Vm
open Go.RowKit
variable {P:Program}

theorem run_append_grown {w:World} {t u ty e:TypeId} {i:TypeInfo} {z:Value} (ht:P.underlying t=some (.slice e)) (hu:srcOk P u=true) (hi:P.info? e=some i) (hz:i.zero=some z)
  {a:Option Addr} {sLen sCap m:Nat} {y:Value} {olds news:Array Value} (hl:(Builtin.lenOf y).run P w=.ok m w) (hg:sCap<sLen+m) (h63:sLen+m≤9223372036854775807) (hby:(sLen+m) * i.bytes≤140737488355328)
  (hold:(Builtin.firstCells i.size sLen (.slice a sLen sCap)).run P w.drew=.ok olds w.drew) (hnew:(Builtin.firstCells i.size m y).run P w.drew=.ok news w.drew) :
  (Builtin.append_ #[t,u] ty #[.slice a sLen sCap,y]).run P w =
   .ok (.slice (some ⟨w.heap.size,0,none⟩) (sLen+m) (grownCap w (sLen+m) sCap e))
    (w.drew.alloc (.cells (olds++news++Builtin.zeroCells z.cells (grownCap w (sLen+m) sCap e - (sLen+m))) e)):=by
 have hn:¬ (sLen+m≤sCap):=by omega
 have h63':¬ (9223372036854775807<((sLen:Int)+(m:Int))):=by omega
 have h48':¬ (281474976710656<Builtin.nextslicecap (sLen+m) sCap * i.bytes):=by have:=growslice_fits hg hby;omega
 unfold srcOk at hu
 split at hu
 ·rename_i e' hut
  simp [Builtin.append_,run_underlying ht,run_underlying hut,sizeOf,typeInfo,zeroValue,hi,hz,hl,hn,h63',h48',Question.forced,hold,hnew,newRow,grownCap]
 ·rename_i hut
  simp [Builtin.append_,run_underlying ht,run_underlying hut,sizeOf,typeInfo,zeroValue,hi,hz,hl,hn,h63',h48',Question.forced,hold,hnew,newRow,grownCap]
 ·cases hu
theorem run_append_fits' {w w':World} {t u ty e:TypeId} {i:TypeInfo} (ht:P.underlying t=some (.slice e)) (hu:srcOk P u=true) (hi:P.info? e=some i)
  {a:Option Addr} {sLen sCap m:Nat} {y:Value} {news:Array Value} (hl:(Builtin.lenOf y).run P w=.ok m w) (hg:sLen+m≤sCap)
  (hnew:(Builtin.firstCells i.size m y).run P w=.ok news w)
  (hst:match a with|some a=>(storeCells (a.add (sLen * i.size)) news.toList).run P w=.ok () w'|none=>w'=w) :
  (Builtin.append_ #[t,u] ty #[.slice a sLen sCap,y]).run P w=.ok (.slice a (sLen+m) sCap) w':=by
 unfold srcOk at hu
 split at hu
 ·rename_i e' hut
  cases a with
  | none =>
   simp only at hst
   subst hst
   simp [Builtin.append_,run_underlying ht,run_underlying hut,sizeOf,typeInfo,hi,hl,hg,hnew]
  | some a =>
   simp only at hst
   simp [Builtin.append_,run_underlying ht,run_underlying hut,sizeOf,typeInfo,hi,hl,hg,hnew,hst]
 ·rename_i hut
  cases a with
  | none =>
   simp only at hst
   subst hst
   simp [Builtin.append_,run_underlying ht,run_underlying hut,sizeOf,typeInfo,hi,hl,hg,hnew]
  | some a =>
   simp only at hst
   simp [Builtin.append_,run_underlying ht,run_underlying hut,sizeOf,typeInfo,hi,hl,hg,hnew,hst]
 ·cases hu

theorem sl_first {gh:Gh} {w:World} {o:Own} {es n:Nat} {ds:List D} {v:Value} (hr:Rep gh w (.sl o es ds) v) (hes:esOk o es n ds=true) :
  ∃ a cap vss,v=.slice a ds.length cap∧RepL gh w ds vss∧(∀ v ∈ vss,VC n v) ∧
   ∀ W:World,(∀ b off,gh.stab b off→W.cell? ⟨b,off,none⟩=w.cell? ⟨b,off,none⟩)→(Builtin.firstCells n ds.length v).run P W=.ok (vss.flatMap fun v=>v.cells.toList).toArray W:=by
 simp only [Rep] at hr
 obtain ⟨a,cap,rfl,hc,ho,hrow⟩:=hr
 by_cases hne:ds=[]
 ·subst hne
  refine ⟨a,cap,[],rfl,by simp [RepL],by simp,fun W _=>?_⟩
  cases a with
  | none=>simp [Builtin.firstCells]
  | some a=>simp [Builtin.firstCells,loadCells,loadCellsFrom]
 ·obtain ⟨b,off,rfl,hrow'⟩:=hrow hne
  have:es=n:=by simpa [esOk,hne] using hes
  subst this
  obtain ⟨vss,k1,k2,k3,k4⟩:=hrow'.loads
  refine ⟨_,cap,vss,rfl,k2,k3,fun W hW=>?_⟩
  refine run_firstCells_some W es ds.length ⟨b,off,none⟩ ds.length cap _ ?_ fun j v hj=>?_
  ·rw [flat_length vss fun v hv=>(k3 v hv).1,k1]
  ·rw [add_off,hW _ _ (k4 j v hj).1]
   exact (k4 j v hj).2
theorem new_first {gh:Gh} {w:World} {n:Nat} {y:D} {new:List D} (h:appendNew n y=some new) {v:Value} (hr:Rep gh w y v) :
  ∃ vss,RepL gh w new vss∧(∀ v ∈ vss,VC n v)∧(∀ W,(Builtin.lenOf v).run P W=.ok new.length W) ∧
   ∀ W:World,(∀ b off,gh.stab b off→W.cell? ⟨b,off,none⟩=w.cell? ⟨b,off,none⟩)→(Builtin.firstCells n new.length v).run P W=.ok (vss.flatMap fun v=>v.cells.toList).toArray W:=by
 unfold appendNew at h
 split at h
 ·split at h
  ·rename_i hes
   cases h
   obtain ⟨a,cap,vss,rfl,h1,h2,h3⟩:=sl_first (P:=P) hr hes
   exact ⟨vss,h1,h2,fun W=>by simp [Builtin.lenOf],h3⟩
  ·cases h
 ·rename_i s
  split at h
  ·rename_i h1
   subst h1
   cases h
   have:=str?_rep (s:=s) (by rfl) hr
   subst this
   have hl:(strBytes s).length=s.length:=by simp [strBytes]
   refine ⟨_,strBytes_rep gh w s,fun v hv=>?_,fun W=>by simp [Builtin.lenOf,hl,ByteArray.size],fun W _=>?_⟩
   ·obtain ⟨b,_,rfl⟩:=List.mem_map.1 hv
    exact vc_int _ _
   ·rw [flat_bytes,hl]
    simp only [Builtin.firstCells,Sem.run_pure]
    congr 1
    apply Array.ext'
    simp [ByteArray.data_extract]
  ·cases h
 ·cases h
end Go.Vm

/- append to a slice that is all of a variable. -/
namespace Go.Vm
open Go.RowKit
variable {P:Program}
theorem set_same {α:Type} {l:List α} {k:Nat} {x:α} (h:l[k]?=some x):l.set k x=l:=by
 apply List.ext_getElem?
 intro j
 rw [List.getElem?_set]
 split
 ·rename_i e
  subst e
  obtain ⟨h1,h2⟩:=List.getElem?_eq_some_iff.1 h
  simp [h1,h2]
 ·rfl

theorem cellsAny_rep {g:Gh} {w:World} {d:D} {cs:List D} {v:Value} (h:cellsAny d=some cs) (hr:Rep g w d v):RepL g w cs v.cells.toList∧allCells cs=true:=by
 unfold cellsAny at h
 split at h
 ·exact cellsT_rep' h hr
 ·exact cellsT_rep' h hr
theorem newCells_rep {g:Gh} {w:World} {n:Nat}:∀ {ds:List D} {vs:List Value} {nc:List D},newCells n ds=some nc→RepL g w ds vs→RepL g w nc (vs.flatMap fun v=>v.cells.toList)∧nc.length=ds.length * n∧allCells nc=true
 | [],vs,nc,h,hr=>by
  simp only [newCells,Option.some.injEq] at h
  simp only [RepL] at hr
  subst h hr
  exact ⟨by simp [RepL],by simp,rfl⟩
 | d::ds,vs,nc,h,hr=>by
  simp only [newCells,Option.bind_eq_some_iff] at h
  obtain ⟨cs,h1,h⟩:=h
  split at h
  ·rename_i hl
   simp only [Option.map_eq_some_iff] at h
   obtain ⟨r,h2,rfl⟩:=h
   simp only [RepL] at hr
   obtain ⟨v,vr,rfl,r1,r2⟩:=hr
   obtain ⟨q1,q2⟩:=cellsAny_rep h1 r1
   obtain ⟨q3,q4,q5⟩:=newCells_rep h2 r2
   refine ⟨by simpa using q1.append q3,by simp only [List.length_append,hl,q4,List.length_cons,Nat.add_mul];omega, ?_⟩
   unfold allCells at *
   rw [List.all_append,q2,q5];rfl
  ·cases h
theorem appendV_sim {t tu e ty:TypeId} {i:TypeInfo} {z:Value} (hu:P.underlying t=some (.slice e)) (c5:srcOk P tu=true) (hi:P.info? e=some i) (hiz:i.zero=some z) (c4:z.cells.size=i.size) (h0:i.size≠0)
  {k off es len:Nat} {y d:D} {A A':St} (h:appendVO i.size i.bytes k off es len y A=some (d,A')) {gh:Gh} {w:World} (I:Inv gh A w) {u v:Value} (hx:Rep gh w (.vsl k off es len) u) (hy:Rep gh w y v) :
  ∃ r w' g',(Builtin.append_ #[t,tu] ty #[u,v]).run P w=.ok r w'∧Ext gh w g' w'∧Inv g' A' w'∧Rep g' w' d r:=by
 simp only [appendVO,Option.bind_eq_some_iff] at h
 obtain ⟨new,hnew,h⟩:=h
 split at h
 case isFalse=>cases h
 rename_i hc
 obtain ⟨rfl,rfl,c2,c3⟩:=hc
 have c2':(len+new.length) * i.bytes≤140737488355328:=of_decide_eq_true c2
 simp only [Option.bind_eq_some_iff] at h
 obtain ⟨s,hs,h⟩:=h
 split at h
 case h_2=>cases h
 rename_i cs
 split at h
 case isFalse=>cases h
 rename_i hlen
 have hx0:=hx
 simp only [Rep] at hx
 obtain ⟨hk,a,cap,rfl,hcap,hnw,hv⟩:=hx
 obtain ⟨vn,n1,n2,n3,n4⟩:=new_first (P:=P) hnew hy
 have hsl:=I.slot k _ hs
 cases hm:gh.m k with
 | none=>rw [hm] at hsl;exact hsl.elim
 | tok r m=>rw [hm] at hsl;exact hsl.elim
 | obj l=>rw [hm] at hsl;exact hsl.elim
 | wait=>exact absurd hm hnw
 | var b o m x =>
 rw [hm] at hsl
 obtain ⟨⟨rfl,hxc⟩,hcs⟩:=hsl
 obtain ⟨v1,v2,v3⟩:=hv b o _ x hm
 have v3:=v3 (by omega)
 cases hem:new.isEmpty with
 | true =>
  rw [hem] at h
  cases h
  have hnil:new=[]:=by simpa using hem
  subst hnil
  have hvn:vn=[]:=List.eq_nil_of_length_eq_zero (by rw [← n1.length];rfl)
  subst hvn
  have:=run_append_fits' (P:=P) (w:=w) (w':=w) (ty:=ty) hu c5 hi (a:=a) (sLen:=len) (sCap:=cap) (n3 w) (by simpa using hcap.1) (n4 w fun _ _ _=>rfl)
   (by cases a<;>simp [storeCells])
  exact ⟨_,w,gh,by simpa using this,Ext.refl _ _,I,hx0⟩
 | false =>
 rw [hem] at h
 simp only [cond_false,Option.map_eq_some_iff] at h
 obtain ⟨nc,hnc,h⟩:=h
 cases h
 have hne:new≠[]:=by rintro rfl;cases hem
 have hpos:0<new.length:=List.length_pos_iff.2 hne
 obtain ⟨hrn,hncl,hall⟩:=newCells_rep hnc n1
 have hsz:0<i.size:=Nat.pos_of_ne_zero h0
 have hmp:0<new.length * i.size:=Nat.mul_pos hpos hsz
 obtain ⟨vs,hvs,hvc⟩:=exists_cells (gh:=gh) (w:=w) (b:=b) cs o fun q d hq=>by
  obtain ⟨v,k1,_,_,k4⟩:=hcs q d hq
  exact ⟨v,k1,k4⟩
 have hvl:vs.length=len * i.size:=by rw [← hvs.length,hlen]
 have hfl:(vn.flatMap fun v=>v.cells.toList).length=new.length * i.size:=by rw [flat_length vn fun v hv=>(n2 v hv).1,n1.length]
 have hold:∀ W:World,(∀ p,W.cell? p=w.cell? p)→(Builtin.firstCells i.size len (.slice a len cap)).run P W=.ok vs.toArray W:=by
  intro W hW
  rcases v2 with rfl|⟨rfl,rfl⟩
  ·refine run_firstCells_some W i.size len ⟨b,o+0,none⟩ len cap _ hvl fun j v hj=>?_
   rw [add_off,hW]
   exact hvc j v hj
  ·have:vs=[]:=List.eq_nil_of_length_eq_zero (by rw [hvl];simp)
   subst this
   cases a with
   | none=>simp [Builtin.firstCells]
   | some a=>simp [Builtin.firstCells,loadCells,loadCellsFrom]
 have hone:∀ q ∈ vs,q.oneCell'=true:=by
  intro q hq
  obtain ⟨j,hj⟩:=List.getElem?_of_mem hq
  have hjl:j<cs.length:=by rw [hvs.length];exact (List.getElem?_eq_some_iff.1 hj).1
  obtain ⟨v',q1,_,q3,_⟩:=hcs j cs[j] (List.getElem?_eq_getElem hjl)
  have:=hvc j q hj
  rw [q1] at this
  cases this
  exact q3
 have hone2:∀ q ∈ (vn.flatMap fun v=>v.cells.toList),q.oneCell'=true:=by
  intro q hq
  obtain ⟨v',hv',hq'⟩:=List.mem_flatMap.1 hq
  exact (n2 v' hv').2 q (by simpa using hq')
 have hnew_len:(cs++nc).length=(len+new.length) * i.size:=by rw [List.length_append,hlen,hncl,Nat.add_mul]
 rcases Nat.lt_or_ge cap (len+new.length) with hlt|hge
 ·-- a new block
  have hrun:=run_append_grown (P:=P) (ty:=ty) hu c5 hi hiz (a:=a) (n3 w) hlt c3 c2' (hold w.drew fun _=>rfl) (n4 w.drew fun _ _ _=>rfl)
  have capge:=grownCap_ge w (len+new.length) cap e
  have caple:grownCap w (len+new.length) cap e≤9223372036854775807:=grownCap_le_maxLen w (len+new.length) cap e (show _≤2 ^ 63 - 1 by omega)
  generalize hcp:grownCap w (len+new.length) cap e=cp at *
  generalize hcc:vs.toArray++(vn.flatMap fun v=>v.cells.toList).toArray++Builtin.zeroCells z.cells (cp - (len+new.length))=c at *
  obtain ⟨E0,I0⟩:=I.drew
  obtain ⟨E1,I1,ha,hb⟩:=I0.alloc c e (0,0)
  have hcsz:c.size=cp * i.size:=by
   rw [← hcc]
   simp only [Array.size_append,List.size_toArray,hvl,hfl,Builtin.zeroCells,Array.size_map,Array.size_range,c4]
   rw [← Nat.add_mul,← Nat.add_mul]
   congr 1;omega
  obtain ⟨E2,I2⟩:=I1.bind_set k hk .none .dead trivial (.inr (.inl ⟨hnw,rfl⟩)) fun b' off h=>h.elim
  have hRold:=((E0.trans E1).trans E2).repL hvs
  have hRnew:=((E0.trans E1).trans E2).repL hrn
  have hR:=hRold.append hRnew
  have hcell:∀ j q,(vs++vn.flatMap fun v=>v.cells.toList)[j]?=some q→(w.drew.alloc (.cells c e)).cell? ⟨w.heap.size,j,none⟩=some q:=by
   intro j q hj
   have hjl:=(List.getElem?_eq_some_iff.1 hj).1
   have:w.heap.size=w.drew.heap.size:=rfl
   rw [this,World.cell?_alloc_new,← hcc,← Array.getElem?_toList,Array.toList_append,Array.toList_append,List.getElem?_append_left]
   ·simpa using hj
   ·simpa using hjl
  obtain ⟨E3,I3⟩:=I2.bind_new (.var w.heap.size 0 (cs++nc).length (cp * i.size - (len+new.length) * i.size)) (.cells (cs++nc)) ⟨⟨rfl,fun _=>⟨by simp,fun off'=>by rw [show w.heap.size=w.drew.heap.size from rfl,World.frozen?_alloc_new]⟩,fun j j1 j2=>by
    rw [hnew_len] at j1 j2
    have hmul:(len+new.length) * i.size≤cp * i.size:=Nat.mul_le_mul_right _ capge
    have:w.heap.size=w.drew.heap.size:=rfl
    constructor
    ·rw [this,World.cell?_alloc_new]
     exact ⟨_,Array.getElem?_eq_getElem (by omega)⟩
    ·rw [this,World.frozen?_alloc_new]⟩,fun j dj hj=>by
    obtain ⟨q,hq,hqr⟩:=hR.get hj
    have:=hcell j q hq
    rw [Nat.zero_add]
    refine ⟨q,this, ?_, ?_,hqr⟩
    ·rw [show w.heap.size=w.drew.heap.size from rfl,World.frozen?_alloc_new]
    ·rcases List.mem_append.1 (List.mem_of_getElem? hq) with hq|hq
     ·exact hone q hq
     ·exact hone2 q hq⟩ fun b' off' ho=>by
    obtain ⟨rfl,_⟩:=ho
    refine ⟨ha off',fun j hj=>?_⟩
    show ¬ (upd gh.m k .none j).owns _ _
    by_cases e:j=k
    ·subst e;simp [Bind.owns]
    ·rw [upd_ne _ _ e];exact hb j off' hj
  refine ⟨_,_,_,hrun,((E0.trans E1).trans E2).trans E3,I3, ?_⟩
  have hA:A.length=gh.len:=I.len.symm
  simp only [Rep]
  refine ⟨by rw [hA];exact Nat.lt_succ_self _,_,cp,rfl,⟨capge,(fun e=>by cases e),caple⟩, ?_,fun b' o' n' x' hm'=>?_⟩
  ·rw [hA];show upd _ gh.len _ gh.len≠_;rw [upd_same];exact fun e=>by cases e
  ·rw [hA] at hm'
   change upd _ gh.len _ gh.len=_ at hm'
   rw [upd_same] at hm'
   cases hm'
   rw [hnew_len]
   have hmul:(len+new.length) * i.size≤cp * i.size:=Nat.mul_le_mul_right _ capge
   exact ⟨by omega,.inl rfl,fun _=>by omega⟩
 ·-- in place
  have hlp:0<cap:=by omega
  rcases v2 with rfl|⟨_,v2⟩
  case inr=>omega
  have hmul:(len+new.length) * i.size≤cap * i.size:=Nat.mul_le_mul_right _ hge
  have hx1:new.length * i.size≤x:=by rw [Nat.add_mul] at hmul;omega
  have hst:=run_storeCells_cells (P:=P) b (o+cs.length) (vn.flatMap fun v=>v.cells.toList) 0 w
   (fun j hj=>by
    obtain ⟨⟨q,hq⟩,_⟩:=hxc.2 (cs.length+j) (by omega) (by omega)
    simp [Nat.add_assoc,hq])
   (fun j hj=>by
    obtain ⟨_,hq⟩:=hxc.2 (cs.length+j) (by omega) (by omega)
    simpa [Nat.add_assoc] using hq) hone2
  simp only [Nat.add_zero] at hst
  have hrun:=run_append_fits' (P:=P) (w:=w) (w':=w.setCells b (o+cs.length) (vn.flatMap fun v=>v.cells.toList)) (ty:=ty) hu c5 hi (a:=some ⟨b,o+0,none⟩) (sLen:=len) (sCap:=cap) (n3 w) hge (n4 w fun _ _ _=>rfl)
   (by simp only;rw [add_off,← hlen];simpa using hst)
  obtain ⟨p1,p2,p3⟩:=os_setCells b (vn.flatMap fun v=>v.cells.toList) (o+cs.length) w
  obtain ⟨E1,hI1⟩:=I.write (w':=w.setCells b (o+cs.length) (vn.flatMap fun v=>v.cells.toList)) k hk p1 p2 p3 (Nat.le_of_eq (size_setCells b _ _ _).symm)
   (fun b' hb' hno=>by
    by_cases eb:b'=b
    ·subst eb
     exact absurd (show (gh.m k).owns b' (o+cs.length) by rw [hm];exact ⟨rfl,by omega⟩) (hno _)
    ·exact heap_setCells b _ _ _ b' eb)
   (fun b' off' hb' hno=>⟨by
    refine World.cell?_setCells_out b _ _ _ _ fun eb _=>?_
    simp only at eb
    subst eb
    exact absurd (show (gh.m k).owns b' off' by rw [hm];exact ⟨rfl,by omega⟩) hno,World.frozen?_setCells b _ _ _ _⟩)
  have hkeep:∀ j,j<cs.length→∀ q,w.cell? ⟨b,o+j,none⟩=some q→(w.setCells b (o+cs.length) (vn.flatMap fun v=>v.cells.toList)).cell? ⟨b,o+j,none⟩=some q:=by
   intro j hj q hq
   exact (World.cell?_setCells_out b _ _ _ _ fun _ _=>.inl (by simp only;omega)).trans hq
  have hin:∀ j,cs.length≤j→j<cs.length+x→(∃ q,(w.setCells b (o+cs.length) (vn.flatMap fun v=>v.cells.toList)).cell? ⟨b,o+j,none⟩=some q)∧(w.setCells b (o+cs.length) (vn.flatMap fun v=>v.cells.toList)).frozen? ⟨b,o+j,none⟩=false:=by
   intro j j1 j2
   obtain ⟨⟨q,hq⟩,hf⟩:=hxc.2 j j1 j2
   refine ⟨?_,(World.frozen?_setCells b _ _ _ _).trans hf⟩
   rcases Nat.lt_or_ge j (cs.length+(vn.flatMap fun v=>v.cells.toList).length) with hlt|hge'
   ·have:=World.cell?_setCells_in b (vn.flatMap fun v=>v.cells.toList) (o+cs.length) w (fun i' hi'=>by
     obtain ⟨⟨q,hq⟩,_⟩:=hxc.2 (cs.length+i') (by omega) (by omega)
     simp [Nat.add_assoc,hq]) (j - cs.length) (by omega)
    rw [show o+cs.length+(j - cs.length)=o+j by omega] at this
    exact ⟨_,this⟩
   ·exact ⟨q,(World.cell?_setCells_out b _ _ _ _ fun _ _=>.inr (by simp only;omega)).trans hq⟩
  have hblk:0<cs.length+x→b<(w.setCells b (o+cs.length) (vn.flatMap fun v=>v.cells.toList)).heap.size∧∀ off',(w.setCells b (o+cs.length) (vn.flatMap fun v=>v.cells.toList)).frozen? ⟨b,off',none⟩=false :=
   fun hp=>⟨by rw [size_setCells];exact (hxc.1 hp).1,fun off'=>(World.frozen?_setCells b _ _ _ _).trans ((hxc.1 hp).2 off')⟩
  have I1:=hI1 (.cells cs) (by
   rw [hm]
   refine ⟨⟨rfl,hblk,fun j j1 j2=>hin j j1 j2⟩,fun j dj hj=>?_⟩
   obtain ⟨q,q1,q2,q3,q4⟩:=hcs j dj hj
   exact ⟨q,hkeep j (List.getElem?_eq_some_iff.1 hj).1 q q1,(World.frozen?_setCells b _ _ _ _).trans q2,q3,E1.rep q4⟩)
  rw [set_same hs] at I1
  obtain ⟨E2,I2⟩:=I1.bind_set k hk .none .dead trivial (.inr (.inl ⟨hnw,rfl⟩)) fun b' off h=>h.elim
  have hR:=((E1.trans E2).repL hvs).append ((E1.trans E2).repL hrn)
  obtain ⟨E3,I3⟩:=I2.bind_new (.var b o (cs++nc).length (x - new.length * i.size)) (.cells (cs++nc)) ⟨⟨rfl,fun _=>hblk (by omega),fun j j1 j2=>by
    rw [List.length_append,hncl] at j1 j2
    exact hin j (by omega) (by omega)⟩,fun j dj hj=>by
    obtain ⟨q,hq,hqr⟩:=hR.get hj
    have hjl:=(List.getElem?_eq_some_iff.1 hj).1
    rw [List.length_append,hncl] at hjl
    rcases Nat.lt_or_ge j cs.length with hjc|hjc
    ·obtain ⟨q',q1,q2,q3,q4⟩:=hcs j cs[j] (List.getElem?_eq_getElem hjc)
     rw [List.getElem?_append_left (by rw [← hvs.length];exact hjc)] at hq
     have:=hvc j q hq
     rw [q1] at this
     cases this
     exact ⟨_,hkeep j hjc _ q1,(World.frozen?_setCells b _ _ _ _).trans q2,q3,hqr⟩
    ·rw [List.getElem?_append_right (by rw [← hvs.length];exact hjc),← hvs.length] at hq
     have hql:=(List.getElem?_eq_some_iff.1 hq).1
     have:=World.cell?_setCells_in b (vn.flatMap fun v=>v.cells.toList) (o+cs.length) w (fun i' hi'=>by
      obtain ⟨⟨q,hq⟩,_⟩:=hxc.2 (cs.length+i') (by omega) (by omega)
      simp [Nat.add_assoc,hq]) (j - cs.length) hql
     rw [show o+cs.length+(j - cs.length)=o+j by omega] at this
     have e:(vn.flatMap fun v=>v.cells.toList)[j - cs.length]=q:=by
      rw [List.getElem?_eq_getElem hql] at hq;exact Option.some.inj hq
     rw [e] at this
     exact ⟨q,this,(hin j hjc (by omega)).2,hone2 q (List.mem_of_getElem? hq),hqr⟩⟩ fun b' off' ho=>by
    have hown:(gh.m k).owns b' off':=by rw [hm];exact ⟨ho.1,by omega⟩
    refine ⟨I.own k b' off' hk hown,fun j hj=>?_⟩
    show ¬ (upd gh.m k .none j).owns _ _
    by_cases e:j=k
    ·subst e;simp [Bind.owns]
    ·rw [upd_ne _ _ e]
     exact fun ho'=>e (I.sep j k b' off' hj hk ho' hown)
  refine ⟨_,_,_,hrun,(E1.trans E2).trans E3,I3, ?_⟩
  have hA:A.length=gh.len:=I.len.symm
  simp only [Rep]
  refine ⟨by rw [hA];exact Nat.lt_succ_self _,_,cap,rfl,⟨hge,(fun e=>by cases e),hcap.2.2⟩, ?_,fun b' o' n' x' hm'=>?_⟩
  ·rw [hA];show upd _ gh.len _ gh.len≠_;rw [upd_same];exact fun e=>by cases e
  ·rw [hA] at hm'
   change upd _ gh.len _ gh.len=_ at hm'
   rw [upd_same] at hm'
   cases hm'
   rw [hnew_len]
   have e1:(len+new.length) * i.size=len * i.size+new.length * i.size:=Nat.add_mul ..
   exact ⟨by omega,.inl rfl,fun _=>by omega⟩
end Go.Vm

/- append,as the abstract interpreter has it. -/
namespace Go.Vm
open Go.RowKit
variable {P:Program}

theorem grown_block {gh:Gh} {A:St} {w:World} (I:Inv gh A w) {n:Nat} {ds new:List D} {vo vn:List Value} (h1:RepL gh w ds vo) (h2:RepL gh w new vn)
  (k1:∀ v ∈ vo,VC n v) (k2:∀ v ∈ vn,VC n v) (zs:Array Value) (e:TypeId) :
  let c:=(vo.flatMap fun v=>v.cells.toList).toArray++(vn.flatMap fun v=>v.cells.toList).toArray++zs
  ∃ g',Ext gh w g' (w.drew.alloc (.cells c e))∧Inv g' A (w.drew.alloc (.cells c e))∧g'.m=gh.m∧g'.len=gh.len ∧
   RepRow g' (w.drew.alloc (.cells c e)) w.heap.size n (ds++new) 0∧(∀ off,g'.stab w.heap.size off→off<(ds.length+new.length) * n) ∧
   (∀ k off,k<g'.len→¬ (g'.m k).owns w.heap.size off):=by
 intro c
 obtain ⟨E0,I0⟩:=I.drew
 obtain ⟨g',E,I',S1,S2,S3,S4⟩:=I0.alloc_stab c e (0,0) ((ds.length+new.length) * n)
 have hlo:=flat_length vo fun v hv=>(k1 v hv).1
 have hln:=flat_length vn fun v hv=>(k2 v hv).1
 have hfl:((vo++vn).flatMap fun v=>v.cells.toList).length=(ds.length+new.length) * n:=by
  rw [List.flatMap_append,List.length_append,hlo,hln,h1.length,h2.length,Nat.add_mul]
 refine ⟨g',E0.trans E,I',S3,S4, ?_,S2,fun k off hk ho=>?_⟩
 ·refine row_of_block ((E0.trans E).repL (h1.append h2)) (fun v hv=>?_) fun j u hj=>?_
  ·rcases List.mem_append.1 hv with hv|hv
   ·exact k1 v hv
   ·exact k2 v hv
  ·have hjl:=(List.getElem?_eq_some_iff.1 hj).1
   rw [hfl] at hjl
   refine ⟨S1 j hjl, ?_⟩
   have:w.heap.size=w.drew.heap.size:=rfl
   rw [this,World.cell?_alloc_new]
   simp only [c]
   rw [← Array.getElem?_toList,Array.toList_append,Array.toList_append,List.getElem?_append_left]
   ·rw [List.flatMap_append] at hj
    simpa using hj
   ·rw [List.flatMap_append] at hfl
    simpa [hfl] using hjl
 ·rw [S3] at ho
  exact absurd (I.lt (S4 ▸ hk) ho) (Nat.lt_irrefl _)
theorem zero_size (z:Array Value) (k:Nat):(Builtin.zeroCells z k).size=k * z.size:=by simp [Builtin.zeroCells]

theorem append_sim {ts:List TypeId} {x y d:D} {A A':St} (h:appendD P ts x y A=some (d,A')) {gh:Gh} {w:World} (I:Inv gh A w) {u v:Value} (hx:Rep gh w x u) (hy:Rep gh w y v) (ty:TypeId) :
  ∃ z w' g',(Builtin.append_ ts.toArray ty #[u,v]).run P w=.ok z w'∧Ext gh w g' w'∧Inv g' A' w'∧Rep g' w' d z:=by
 unfold appendD at h
 split at h
 ·rename_i t tu
  simp only [Option.bind_eq_some_iff] at h
  obtain ⟨⟨e,n,gg⟩,he,b,hb,z,hz,h⟩:=h
  obtain ⟨hu,hn,hg,h0⟩:=elemOf_some he
  obtain ⟨i,hi,hin⟩:∃ i,P.info? e=some i∧i.size=n:=by
   simp only [tySize,Option.map_eq_some_iff] at hn;exact hn
  have hib:i.bytes=b:=by simp only [tyBytes,hi,Option.map_some,Option.some.injEq] at hb;exact hb
  have hiz:i.zero=some z:=by simpa [tyZero,hi] using hz
  subst hin hib
  split at h
  case isFalse=>cases h
  rename_i hc45
  obtain ⟨c4,c5⟩:=hc45
  unfold appendO at h
  split at h
  ·exact appendV_sim hu c5 hi hiz c4 h0 h I hx hy
  rename_i hnv
  simp only [appendS,Option.bind_eq_some_iff] at h
  obtain ⟨new,hnew,h⟩:=h
  split at h
  ·rename_i o es ds
   split at h
   ·rename_i hc
    obtain ⟨c1,c2,c3⟩:=hc
    have c2':(ds.length+new.length) * i.bytes≤140737488355328:=of_decide_eq_true c2
    have hx0:=hx
    simp only [Rep] at hx
    obtain ⟨a,cap,rfl,hcap,hown,hrow⟩:=hx
    obtain ⟨a',cap',vo,heq,o1,o2,o3⟩:=sl_first (P:=P) hx0 c1
    cases heq
    obtain ⟨vn,n1,n2,n3,n4⟩:=new_first (P:=P) hnew hy
    -- nothing new: the slice as it is
    have nil:new=[]→∃ g',(Builtin.append_ #[t,tu] ty #[.slice a ds.length cap,v]).run P w=.ok (.slice a ds.length cap) w∧Ext gh w g' w∧Inv g' A w∧g'=gh:=by
     intro hnil
     subst hnil
     refine ⟨gh, ?_,Ext.refl _ _,I,rfl⟩
     have hvn:vn=[]:=List.eq_nil_of_length_eq_zero (by rw [← n1.length];rfl)
     subst hvn
     have:=run_append_fits' (P:=P) (w:=w) (w':=w) (ty:=ty) hu c5 hi (a:=a) (sLen:=ds.length) (sCap:=cap) (n3 w) (by simpa using hcap) (n4 w fun _ _ _=>rfl)
      (by cases a<;>simp [storeCells])
     simpa using this
    -- a new row
    have grow:cap<ds.length+new.length→∃ g',(Builtin.append_ #[t,tu] ty #[.slice a ds.length cap,v]).run P w =
       .ok (.slice (some ⟨w.heap.size,0,none⟩) (ds.length+new.length) (grownCap w (ds.length+new.length) cap e))
        (w.drew.alloc (.cells ((vo.flatMap fun v=>v.cells.toList).toArray++(vn.flatMap fun v=>v.cells.toList).toArray++Builtin.zeroCells z.cells (grownCap w (ds.length+new.length) cap e - (ds.length+new.length))) e)) ∧
      Ext gh w g' (w.drew.alloc (.cells ((vo.flatMap fun v=>v.cells.toList).toArray++(vn.flatMap fun v=>v.cells.toList).toArray++Builtin.zeroCells z.cells (grownCap w (ds.length+new.length) cap e - (ds.length+new.length))) e)) ∧
      Inv g' A (w.drew.alloc (.cells ((vo.flatMap fun v=>v.cells.toList).toArray++(vn.flatMap fun v=>v.cells.toList).toArray++Builtin.zeroCells z.cells (grownCap w (ds.length+new.length) cap e - (ds.length+new.length))) e)) ∧
      g'.m=gh.m∧g'.len=gh.len ∧
      RepRow g' (w.drew.alloc (.cells ((vo.flatMap fun v=>v.cells.toList).toArray++(vn.flatMap fun v=>v.cells.toList).toArray++Builtin.zeroCells z.cells (grownCap w (ds.length+new.length) cap e - (ds.length+new.length))) e)) w.heap.size i.size (ds++new) 0 ∧
      (∀ off,g'.stab w.heap.size off→off<(ds.length+new.length) * i.size)∧(∀ k off,k<g'.len→¬ (g'.m k).owns w.heap.size off) ∧
      (∀ j,(ds.length+new.length) * i.size≤j→j<grownCap w (ds.length+new.length) cap e * i.size →
       (∃ q,(w.drew.alloc (.cells ((vo.flatMap fun v=>v.cells.toList).toArray++(vn.flatMap fun v=>v.cells.toList).toArray++Builtin.zeroCells z.cells (grownCap w (ds.length+new.length) cap e - (ds.length+new.length))) e)).cell? ⟨w.heap.size,j,none⟩=some q) ∧
       (w.drew.alloc (.cells ((vo.flatMap fun v=>v.cells.toList).toArray++(vn.flatMap fun v=>v.cells.toList).toArray++Builtin.zeroCells z.cells (grownCap w (ds.length+new.length) cap e - (ds.length+new.length))) e)).frozen? ⟨w.heap.size,j,none⟩=false):=by
     intro hlt
     have hrun:=run_append_grown (P:=P) (ty:=ty) hu c5 hi hiz (a:=a) (n3 w) hlt c3 c2' (o3 w.drew fun _ _ _=>rfl) (n4 w.drew fun _ _ _=>rfl)
     obtain ⟨g',E,I',m1,m2,m3,m4,m5⟩:=grown_block I o1 n1 o2 n2 (Builtin.zeroCells z.cells (grownCap w (ds.length+new.length) cap e - (ds.length+new.length))) e
     refine ⟨g',hrun,E,I',m1,m2,m3,m4,m5,fun j hj1 hj2=>?_⟩
     have hw:w.heap.size=w.drew.heap.size:=rfl
     have hge:=grownCap_ge w (ds.length+new.length) cap e
     constructor
     ·refine ⟨_,by
       rw [hw,World.cell?_alloc_new]
       refine Array.getElem?_eq_getElem ?_
       simp only [Array.size_append,List.size_toArray,zero_size,c4,flat_length vo fun v hv=>(o2 v hv).1,flat_length vn fun v hv=>(n2 v hv).1,← o1.length,← n1.length]
       rw [← Nat.add_mul,← Nat.add_mul]
       rw [show ds.length+new.length+(grownCap w (ds.length+new.length) cap e - (ds.length+new.length))=grownCap w (ds.length+new.length) cap e by omega]
       exact hj2⟩
     ·rw [hw,World.frozen?_alloc_new]
    have capge:=grownCap_ge w (ds.length+new.length) cap e
    -- by whose the room is
    cases o with
    | sh =>
     simp only at h
     split at h
     ·rename_i hemp
      cases h
      have hnil:new=[]:=by simpa using hemp
      obtain ⟨g',r1,r2,r3,rfl⟩:=nil hnil
      refine ⟨_,_,_,by simpa using r1,r2,r3, ?_⟩
      simp only [Rep]
      refine ⟨a,cap,rfl,hcap,trivial,fun hne=>?_⟩
      have hes:es=i.size:=by simpa [esOk,hne] using c1
      subst hes
      exact hrow hne
     ·cases h
    | full =>
     simp only at h
     simp only [OwnOk] at hown
     split at h
     ·rename_i hemp
      cases h
      have hnil:new=[]:=by simpa using hemp
      obtain ⟨g',r1,r2,r3,rfl⟩:=nil hnil
      refine ⟨_,_,_,by simpa using r1,r2,r3, ?_⟩
      simp only [Rep]
      refine ⟨a,cap,rfl,hcap,hown,fun hne=>?_⟩
      have hes:es=i.size:=by simpa [esOk,hne] using c1
      subst hes
      exact hrow hne
     ·rename_i hemp
      cases h
      have hne:new≠[]:=by simpa using hemp
      have hpos:0<new.length:=List.length_pos_iff.2 hne
      obtain ⟨g',r1,E,I',m1,m2,m3,m4,m5,m6⟩:=grow (by omega)
      obtain ⟨E2,I2⟩:=I'.bind_new (.tok (some (w.heap.size,(ds.length+new.length) * i.size,grownCap w (ds.length+new.length) cap e * i.size)) (ds.length+new.length)) (.tok (ds.length+new.length))
       ⟨rfl,fun b' e' lim hr j h1 h2=>by cases hr;exact m6 j h1 h2⟩ fun b' off ho=>by
        obtain ⟨rfl,q1,q2⟩:=ho
        exact ⟨fun hs=>by have:=m4 off hs;omega,fun k hk=>m5 k off hk⟩
      refine ⟨_,_,_,by simpa using r1,E.trans E2,I2, ?_⟩
      simp only [Rep]
      refine ⟨_,grownCap w (ds.length+new.length) cap e,by simp,by simpa using capge, ?_,fun _=>⟨w.heap.size,0,rfl,E2.repRow m3⟩⟩
      simp only [OwnOk]
      refine ⟨by simp [m2,I.len],fun r q hm=>?_⟩
      have hlen:A.length=g'.len:=by rw [m2,I.len]
      rw [hlen] at hm
      simp only [upd_same,Bind.tok.injEq] at hm
      obtain ⟨rfl,rfl⟩:=hm
      exact ⟨by simp,fun _=>.inr ⟨_,_,_,0,rfl,rfl,by simp,by simp⟩⟩
    | own c s =>
     have hes:es=i.size:=by simpa [esOk,Own.isOwn] using c1
     subst hes
     simp only [Option.bind_eq_some_iff] at h
     obtain ⟨sl,hsl,h⟩:=h
     split at h
     ·rename_i m
      split at h
      ·rename_i hm
       cases h
       subst hm
       have hcl:c<gh.len:=hown.1
       have hok:=I.slot c _ hsl
       cases hbd:gh.m c with
       | none=>rw [hbd] at hok;exact hok.elim
       | wait=>rw [hbd] at hok;exact hok.elim
       | obj l=>rw [hbd] at hok;exact hok.elim
       | var b' o' n' x'=>rw [hbd] at hok;exact hok.elim
       | tok r q =>
        rw [hbd] at hok
        obtain ⟨rfl,hok⟩:=hok
        by_cases hnil:new=[]
        ·obtain ⟨g',r1,r2,r3,rfl⟩:=nil hnil
         subst hnil
         simp only [List.length_nil,Nat.add_zero,List.append_nil]
         rw [set_same hsl]
         exact ⟨_,_,_,by simpa using r1,r2,r3,hx0⟩
        ·have hpos:0<new.length:=List.length_pos_iff.2 hnil
         rcases Nat.lt_or_ge cap (ds.length+new.length) with hlt|hge
         ·obtain ⟨g',r1,E,I',m1,m2,m3,m4,m5,m6⟩:=grow hlt
          obtain ⟨E2,I2⟩:=I'.bind_set c (by rw [m2];exact hcl)
           (.tok (some (w.heap.size,(ds.length+new.length) * i.size,grownCap w (ds.length+new.length) cap e * i.size)) (s+ds.length+new.length)) (.tok (s+ds.length+new.length))
           ⟨rfl,fun b' e' lim hr j h1 h2=>by cases hr;exact m6 j h1 h2⟩ (.inr (.inr ⟨r,_,_,_,by rw [m1,hbd],rfl,by omega⟩)) fun b' off ho=>by
            obtain ⟨rfl,q1,q2⟩:=ho
            exact ⟨fun hs=>by have:=m4 off hs;omega,fun k hk _=>m5 k off hk⟩
          refine ⟨_,_,_,by simpa using r1,E.trans E2,I2, ?_⟩
          simp only [Rep]
          refine ⟨_,grownCap w (ds.length+new.length) cap e,by simp,by simpa using capge, ?_,fun _=>⟨w.heap.size,0,rfl,E2.repRow m3⟩⟩
          simp only [OwnOk]
          refine ⟨by simpa [m2] using hcl,fun r' q' hm'=>?_⟩
          simp only [upd_same,Bind.tok.injEq] at hm'
          obtain ⟨rfl,rfl⟩:=hm'
          exact ⟨by simp;omega,fun _=>.inr ⟨_,_,_,0,rfl,rfl,by simp,by simp⟩⟩
         ·-- in place
          rcases (hown.2 r _ hbd).2 rfl with hfull|⟨b0,e0,lim,off,rfl,rfl,q1,q2⟩
          ·omega
          ·have hroom:=hok b0 e0 lim rfl
           have hmul:(ds.length+new.length) * i.size≤cap * i.size:=Nat.mul_le_mul_right _ hge
           rw [Nat.add_mul] at hmul
           have hfl:(vn.flatMap fun v=>v.cells.toList).length=new.length * i.size:=by rw [flat_length vn fun v hv=>(n2 v hv).1,n1.length]
           have hst:=run_storeCells_cells (P:=P) b0 e0 (vn.flatMap fun v=>v.cells.toList) 0 w
            (fun j hj=>by
             obtain ⟨⟨q,hq⟩,_⟩:=hroom (e0+j) (by omega) (by omega)
             simp [hq])
            (fun j hj=>by
             obtain ⟨_,hq⟩:=hroom (e0+j) (by omega) (by omega)
             simpa using hq)
            (fun q hq=>by
             obtain ⟨v',hv',hq'⟩:=List.mem_flatMap.1 hq
             exact (n2 v' hv').2 q (by simpa using hq'))
           simp only [Nat.add_zero] at hst
           have hrun:=run_append_fits' (P:=P) (w:=w) (w':=w.setCells b0 e0 (vn.flatMap fun v=>v.cells.toList)) (ty:=ty) hu c5 hi (a:=some ⟨b0,off,none⟩) (sLen:=ds.length) (sCap:=cap) (n3 w) hge (n4 w fun _ _ _=>rfl)
            (by simp only;rw [add_off,q1];simpa using hst)
           obtain ⟨p1,p2,p3⟩:=os_setCells b0 (vn.flatMap fun v=>v.cells.toList) e0 w
           have hnoS:∀ j,e0≤j→j<lim→¬ gh.stab b0 j:=fun j j1 j2=>I.own c b0 j hcl (by rw [hbd];exact ⟨rfl,j1,j2⟩)
           obtain ⟨E1,hI1⟩:=I.write (w':=w.setCells b0 e0 (vn.flatMap fun v=>v.cells.toList)) c hcl p1 p2 p3 (Nat.le_of_eq (size_setCells b0 _ _ _).symm)
            (fun b' hb' hno=>by
             by_cases eb:b'=b0
             ·subst eb
              exact absurd (show (gh.m c).owns b' e0 by rw [hbd];exact ⟨rfl,Nat.le_refl _,by have:0<i.size:=Nat.pos_of_ne_zero h0;have:=Nat.mul_pos hpos this;omega⟩) (hno e0)
             ·exact heap_setCells b0 _ _ _ b' eb)
            (fun b' off' hb' hno=>⟨by
             refine World.cell?_setCells_out b0 _ _ _ _ fun eb _=>?_
             simp only at eb
             subst eb
             have h3:¬ (e0≤off'∧off'<lim):=fun h=>hno (by rw [hbd];exact ⟨rfl,h.1,h.2⟩)
             simp only
             omega,World.frozen?_setCells b0 _ _ _ _⟩)
           have hcell:∀ j,e0≤j→j<lim→(∃ q,(w.setCells b0 e0 (vn.flatMap fun v=>v.cells.toList)).cell? ⟨b0,j,none⟩=some q)∧(w.setCells b0 e0 (vn.flatMap fun v=>v.cells.toList)).frozen? ⟨b0,j,none⟩=false:=by
            intro j j1 j2
            obtain ⟨⟨q,hq⟩,hf⟩:=hroom j j1 j2
            refine ⟨?_,(World.frozen?_setCells b0 _ _ _ _).trans hf⟩
            rcases Nat.lt_or_ge j (e0+(vn.flatMap fun v=>v.cells.toList).length) with hlt|hge'
            ·have:=World.cell?_setCells_in b0 (vn.flatMap fun v=>v.cells.toList) e0 w (fun i' hi'=>by
              obtain ⟨⟨q,hq⟩,_⟩:=hroom (e0+i') (by omega) (by omega)
              simp [hq]) (j - e0) (by omega)
             rw [show e0+(j - e0)=j by omega] at this
             exact ⟨_,this⟩
            ·exact ⟨q,(World.cell?_setCells_out b0 _ _ _ _ fun _ _=>.inr hge').trans hq⟩
           have I1:=hI1 (.tok (s+ds.length)) (by rw [hbd];exact ⟨rfl,fun b' e' lim' hr j j1 j2=>by cases hr;exact hcell j j1 j2⟩)
           rw [set_same hsl] at I1
           obtain ⟨E2,I2⟩:=I1.bind_set c hcl (.tok (some (b0,e0+new.length * i.size,lim)) (s+ds.length+new.length)) (.tok (s+ds.length+new.length))
            ⟨rfl,fun b' e' lim' hr j j1 j2=>by cases hr;exact hcell j (by omega) j2⟩ (.inr (.inr ⟨_,_,_,_,hbd,rfl,by omega⟩)) fun b' off' ho=>by
             obtain ⟨rfl,j1,j2⟩:=ho
             refine ⟨hnoS off' (by omega) j2,fun k hk hne' ho'=>hne' (I.sep k c b' off' hk hcl ho' (by rw [hbd];exact ⟨rfl,by omega,j2⟩))⟩
           obtain ⟨E3,I3⟩:=I2.stab_add (fun b' off'=>b'=b0∧e0≤off'∧off'<e0+new.length * i.size) fun b' off' ⟨hb',j1,j2⟩=>by
            subst hb'
            constructor
            ·rw [size_setCells]
             obtain ⟨⟨q,hq⟩,_⟩:=hroom off' j1 (by omega)
             exact World.block_lt_of_cell? w _ hq
            ·intro k hk ho
             by_cases ek:k=c
             ·subst ek
              simp only [upd_same] at ho
              obtain ⟨_,k1,_⟩:=ho
              omega
             ·change (upd gh.m c _ k).owns b' off' at ho
              rw [upd_ne _ _ ek] at ho
              exact ek (I.sep k c b' off' hk hcl ho (by rw [hbd];exact ⟨rfl,j1,by omega⟩))
           have hE:=(E1.trans E2).trans E3
           refine ⟨_,_,_,by simpa using hrun,hE,I3, ?_⟩
           simp only [Rep]
           refine ⟨_,cap,by simp,by simpa using hge, ?_,fun _=>⟨b0,off,rfl, ?_⟩⟩
           ·simp only [OwnOk]
            refine ⟨hcl,fun r' q' hm'=>?_⟩
            simp only [upd_same,Bind.tok.injEq] at hm'
            obtain ⟨rfl,rfl⟩:=hm'
            exact ⟨by simp;omega,fun _=>.inr ⟨_,_,_,off,rfl,rfl,by simp [Nat.add_mul];omega,q2⟩⟩
           ·have hold:RepRow gh w b0 i.size ds off:=by
             by_cases hds:ds=[]
             ·subst hds;simp [RepRow]
             ·obtain ⟨b1,off1,heq,hr1⟩:=hrow hds
              cases heq
              exact hr1
            refine RepRow.append (hE.repRow hold) ?_
            rw [q1]
            refine row_of_cells new vn e0 (hE.repL n1) n2 fun j q hj=>?_
            have hjl:=(List.getElem?_eq_some_iff.1 hj).1
            refine ⟨.inr (.inr ⟨rfl,by omega,by omega⟩), ?_⟩
            have:=World.cell?_setCells_in b0 (vn.flatMap fun v=>v.cells.toList) e0 w (fun i' hi'=>by
              obtain ⟨⟨q,hq⟩,_⟩:=hroom (e0+i') (by omega) (by omega)
              simp [hq]) j hjl
            rw [this,← hj,List.getElem?_eq_getElem hjl]
      ·cases h
     ·cases h
   ·cases h
  ·cases h
 ·cases h
end Go.Vm
