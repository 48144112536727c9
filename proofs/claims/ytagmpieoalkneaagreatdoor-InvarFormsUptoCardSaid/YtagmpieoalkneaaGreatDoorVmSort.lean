/- VmArg, VmArg2, VmArg3, VmSort in one text. -/
import Derived.Test.YtagmpieoalkneaaGreatDoorVmSimp
import GoSem.ClaimChange
import Derived.Test.YtagmpieoalkneaaGreatDoorVmPure3
import Derived.Test.YtagmpieoalkneaaGreatDoorVmFun
import Derived.Shelf.Sort.Plain
import Derived.Shelf.Slices.In.SortNone
import Derived.Shelf.Slices.CompactS
import Derived.Lib.RowBridge
set_option linter.all false
/- How an argument's reading opens,one level at a time. -/
namespace Go.Vm
open Go.RowKit
variable {H:Type} {enc:TypeId×Value→H} {P:Program} {w:World} {base:Nat} {spare:Nat→Bool} {held:Bool}

theorem mapM_some {α β:Type} {f:α→Option β}:∀ {l:List α} {r:List β},l.mapM f=some r→r.length=l.length∧∀ (i:Nat) a,l[i]?=some a→∃ b,r[i]?=some b∧f a=some b
 | [],r,h=>by
  simp only [List.mapM_nil,Option.pure_def,Option.some.injEq] at h
  subst h
  exact ⟨rfl,fun i a h=>by simp at h⟩
 | x::l,r,h=>by
  simp only [List.mapM_cons,Option.bind_eq_bind,Option.bind_eq_some_iff,Option.pure_def,Option.some.injEq] at h
  obtain ⟨b,hb,r',hr,rfl⟩:=h
  obtain ⟨h1,h2⟩:=mapM_some hr
  refine ⟨by simp [h1],fun i a hi=>?_⟩
  cases i with
  | zero =>
   simp only [List.getElem?_cons_zero,Option.some.injEq] at hi
   subst hi
   exact ⟨b,rfl,hb⟩
  | succ i=>exact h2 i a (by simpa using hi)
theorem trod_int {k:IntKind} {t:TypeId} (hu:P.underlying t=some (.int k)) {fuel:Nat} {cs:List Value} {x:DataW H×List MemPlace} (h:DataW.trod enc P w base spare held fuel t cs=some x) :
  ∃ n,cs=[.int k n]∧(Lit.int k n).wf=true∧x.1=.lit (.int k n):=by
 cases fuel with
 | zero=>cases h
 | succ fuel =>
  unfold DataW.trod at h
  rw [hu] at h
  simp only at h
  split at h
  all_goals (first|(simp_all;done)|skip)
  all_goals (split at h<;>simp_all)
  all_goals (subst h;rfl)
theorem trod_slice {e t:TypeId} (hu:P.underlying t=some (.slice e)) {fuel:Nat} {cs:List Value} {x:DataW H×List MemPlace} (h:DataW.trod enc P w base spare held fuel t cs=some x) :
  (cs=[.slice none 0 0]∧x.1=.nil)∨∃ a len cap fu,∃ elems:List (DataW H×List MemPlace),∃ rest,cs=[.slice (some a) len cap]∧len≤cap∧cap≤maxLen∧elems.length=len∧x.1=.slice (elems.map (·.1)) rest ∧
   ∀ i,i<len→∃ cells y,w.cells? base (a.add (i * P.cellsOf e)) (P.cellsOf e)=some cells∧elems[i]?=some y∧DataW.trod enc P w base spare held fu e cells=some y:=by
 cases fuel with
 | zero=>cases h
 | succ fuel =>
  unfold DataW.trod at h
  rw [hu] at h
  simp only at h
  split at h
  all_goals (first|(simp_all;done)|skip)
  ·left
   simp only [Option.some.injEq] at h
   subst h
   exact ⟨rfl,rfl⟩
  ·rename_i e' a len cap he
   simp only [Option.some.injEq,TypeDesc.slice.injEq] at he
   subst he
   right
   split at h
   ·rename_i hc
    simp only [Option.bind_eq_some_iff,Option.map_eq_some_iff] at h
    obtain ⟨elems,h1,rest,h2,rfl⟩:=h
    obtain ⟨h3,h4⟩:=mapM_some h1
    refine ⟨a,len,cap,fuel,elems,rest.map (·.1),rfl,hc.2.1,hc.2.2,by simpa using h3,rfl,fun i hi=>?_⟩
    obtain ⟨y,hy1,hy2⟩:=h4 i i (by simp [hi])
    simp only [Option.bind_eq_some_iff] at hy2
    obtain ⟨cells,hc1,hc2⟩:=hy2
    exact ⟨cells,y,hc1,hy1,hc2⟩
   ·cases h
theorem trod_struct {fs:Array Field} {t:TypeId} (hu:P.underlying t=some (.struct fs)) {fuel:Nat} {cs:List Value} {x:DataW H×List MemPlace} (h:DataW.trod enc P w base spare held fuel t cs=some x) :
  cs.length=P.cellsOf t∧∃ fu,∃ xs:List (DataW H×List MemPlace),xs.length=fs.toList.length∧x.1=.agg (xs.map (·.1)) ∧
   ∀ (i:Nat) f,fs.toList[i]?=some f→∃ y,xs[i]?=some y∧DataW.trod enc P w base spare held fu f.type ((cs.drop f.offset).take (P.cellsOf f.type))=some y:=by
 cases fuel with
 | zero=>cases h
 | succ fuel =>
  unfold DataW.trod at h
  rw [hu] at h
  simp only at h
  split at h
  all_goals (first|(simp_all;done)|skip)
  rename_i hl
  simp only [Option.map_eq_some_iff] at h
  obtain ⟨xs,h1,rfl⟩:=h
  obtain ⟨h3,h4⟩:=mapM_some h1
  exact ⟨hl,fuel,xs,h3,rfl,fun i f hf=>h4 i f hf⟩
end Go.Vm

/- Slices among the arguments stand for rows of data. -/
namespace Go.Vm
open Go.RowKit
variable {H:Type} {enc:TypeId×Value→H} {P:Program} {w:World} {spare:Nat→Bool} {held:Bool}

theorem cells_some {base n:Nat} {a:Addr} {cells:List Value} (h:w.cells? base a n=some cells):cells.length=n∧∀ j,j<n→∃ c,cells[j]?=some c∧w.cell? (a.add j)=some c:=by
 unfold World.cells? at h
 split at h
 ·obtain ⟨h1,h2⟩:=mapM_some h
  refine ⟨by simpa using h1,fun j hj=>?_⟩
  obtain ⟨c,hc1,hc2⟩:=h2 j j (by simp [hj])
  exact ⟨c,hc1,hc2⟩
 ·cases h
theorem cell_lt {a:Addr} {c:Value} (h:w.cell? a=some c):a.block<w.heap.size∧a.spot=none:=by
 unfold World.cell? at h
 split at h
 ·rename_i cs x y hb
  split at h
  ·cases h
  ·rename_i hs
   refine ⟨(Array.getElem?_eq_some_iff.1 hb).1, ?_⟩
   cases hsp:a.spot with
   | none=>rfl
   | some z=>simp [hsp] at hs
 ·cases h
def g0 (w:World):Gh:={ base:=w.heap.size,S:=fun _ _=>False,len:=0,m:=fun _=>.none }
theorem slice_rep {e t:TypeId} (hu:P.underlying t=some (.slice e)) {n:Nat} (hn:P.cellsOf e=n) (hn0:0<n) {fuel:Nat} {cs:List Value} {x:DataW H×List MemPlace}
  (h:DataW.trod enc P w 0 spare held fuel t cs=some x) (Q:D→DataW H→Prop)
  (hE:∀ fu cells y,cells.length=n→DataW.trod enc P w 0 spare held fu e cells=some y→∃ d v,v.cells.toList=cells∧VC n v∧Rep (g0 w) w d v∧Q d y.1) :
  ∃ ds v,cs=[v]∧Rep (g0 w) w (.sl .sh n ds) v∧ds.length≤maxLen∧((x.1=.nil∧ds=[])∨∃ els rest,x.1=.slice els rest∧els.length=ds.length∧∀ (i:Nat) d,ds[i]?=some d→∃ y,els[i]?=some y∧Q d y):=by
 rcases trod_slice hu h with ⟨rfl,hx⟩|⟨a,len,cap,fu,elems,rest,rfl,hlc,hcm,hel,hx,hall⟩
 ·refine ⟨[],_,rfl, ?_,Nat.zero_le _,.inl ⟨hx,rfl⟩⟩
  unfold Rep
  exact ⟨none,0,rfl,Nat.le_refl _,trivial,fun h=>absurd rfl h⟩
 ·rw [hn] at hall
  have hch:∀ i,i<len→∃ d,∃ v:Value,∃ y:DataW H×List MemPlace,elems[i]?=some y∧VC n v∧Rep (g0 w) w d v∧Q d y.1∧∀ j,j<n→w.cell? ((a.add (i * n)).add j)=v.cells[j]?:=by
   intro i hi
   obtain ⟨cells,y,h1,h2,h3⟩:=hall i hi
   obtain ⟨h4,h5⟩:=cells_some h1
   obtain ⟨d,v,h6,h7,h8,h9⟩:=hE fu cells y h4 h3
   refine ⟨d,v,y,h2,h7,h8,h9,fun j hj=>?_⟩
   obtain ⟨c,hc1,hc2⟩:=h5 j hj
   rw [hc2,← Array.getElem?_toList,h6,hc1]
  have hds:∃ ds:List D,ds.length=len∧∀ i d,ds[i]?=some d→∃ v:Value,∃ y:DataW H×List MemPlace,elems[i]?=some y∧VC n v∧Rep (g0 w) w d v∧Q d y.1∧∀ j,j<n→w.cell? ((a.add (i * n)).add j)=v.cells[j]?:=by
   clear hall hx hel hlc hcm h
   induction len with
   | zero=>exact ⟨[],rfl,fun i d h=>by simp at h⟩
   | succ len ih =>
    obtain ⟨ds,h1,h2⟩:=ih fun i hi=>hch i (by omega)
    obtain ⟨d,v,y,h3⟩:=hch len (by omega)
    refine ⟨ds++[d],by simp [h1],fun i d' hi=>?_⟩
    rw [List.getElem?_append] at hi
    split at hi
    ·exact h2 i d' hi
    ·rename_i hni
     have:i=len:=by
      have:=(List.getElem?_eq_some_iff.1 hi).1
      simp at this
      omega
     subst this
     rw [h1] at hi
     simp at hi
     subst hi
     exact ⟨v,y,h3⟩
  obtain ⟨ds,hl,hd⟩:=hds
  refine ⟨ds,_,rfl, ?_,by omega,.inr ⟨_,rest,hx,by simp [hel,hl],fun i d hi=>?_⟩⟩
  ·unfold Rep
   refine ⟨some a,cap,by rw [hl],by omega,trivial,fun hne=>?_⟩
   have h00:0<ds.length:=List.length_pos_iff.2 hne
   have hspot:a.spot=none:=by
    obtain ⟨v,y,_,hvc,_,_,hc⟩:=hd 0 ds[0] (List.getElem?_eq_getElem h00)
    have:=hc 0 hn0
    have hv0:∃ u,v.cells[0]?=some u:=⟨v.cells[0]'(by rw [hvc.1];exact hn0),Array.getElem?_eq_getElem _⟩
    obtain ⟨u,hu⟩:=hv0
    rw [hu] at this
    have:=(cell_lt this).2
    revert this
    unfold Addr.add
    split<;>simp_all
   obtain ⟨b,off,sp⟩:=a
   simp only at hspot
   subst hspot
   refine ⟨b,off,rfl,RepRow.of_get fun i d hi=>?_⟩
   obtain ⟨v,y,_,hvc,hr,_,hc⟩:=hd i d hi
   refine ⟨v,hr,hvc,fun j hj=>?_⟩
   have:=hc j hj
   rw [add_off,add_off] at this
   refine ⟨?_,this⟩
   have hv0:∃ u,v.cells[j]?=some u:=⟨v.cells[j]'(by rw [hvc.1];exact hj),Array.getElem?_eq_getElem _⟩
   obtain ⟨u,hu⟩:=hv0
   rw [hu] at this
   exact .inl (cell_lt this).1
  ·obtain ⟨v,y,hy,_,_,hq,_⟩:=hd i d hi
   exact ⟨y.1,by simp [hy],hq⟩
end Go.Vm

/- Arguments of a type that holds itself: one level at a time,with what is left of the fuel. -/
namespace Go.Vm
open Go.RowKit
section
variable {H:Type} {enc:TypeId×Value→H} {P:Program} {w:World} {base:Nat} {spare:Nat→Bool} {held:Bool}
theorem trod_string {t:TypeId} (hu:P.underlying t=some .string) {fuel:Nat} {cs:List Value} {x:DataW H×List MemPlace} (h:DataW.trod enc P w base spare held fuel t cs=some x) :
  ∃ s,cs=[.string s]∧x.1=.lit (.string s.data.toList):=by
 cases fuel with
 | zero=>cases h
 | succ fuel =>
  unfold DataW.trod at h
  rw [hu] at h
  simp only at h
  split at h
  all_goals (first|(simp_all;done)|skip)
  all_goals (split at h<;>simp_all)
  all_goals (subst h;rfl)
theorem trod_slice_f {e t:TypeId} (hu:P.underlying t=some (.slice e)) {fuel:Nat} {cs:List Value} {x:DataW H×List MemPlace} (h:DataW.trod enc P w base spare held (fuel+1) t cs=some x) :
  (cs=[.slice none 0 0]∧x.1=.nil)∨∃ a len cap,∃ elems:List (DataW H×List MemPlace),∃ rest,cs=[.slice (some a) len cap]∧len≤cap∧cap≤maxLen∧elems.length=len∧x.1=.slice (elems.map (·.1)) rest ∧
   ∀ i,i<len→∃ cells y,w.cells? base (a.add (i * P.cellsOf e)) (P.cellsOf e)=some cells∧elems[i]?=some y∧DataW.trod enc P w base spare held fuel e cells=some y:=by
  unfold DataW.trod at h
  rw [hu] at h
  simp only at h
  split at h
  all_goals (first|(simp_all;done)|skip)
  ·left
   simp only [Option.some.injEq] at h
   subst h
   exact ⟨rfl,rfl⟩
  ·rename_i e' a len cap he
   simp only [Option.some.injEq,TypeDesc.slice.injEq] at he
   subst he
   right
   split at h
   ·rename_i hc
    simp only [Option.bind_eq_some_iff,Option.map_eq_some_iff] at h
    obtain ⟨elems,h1,rest,h2,rfl⟩:=h
    obtain ⟨h3,h4⟩:=mapM_some h1
    refine ⟨a,len,cap,elems,rest.map (·.1),rfl,hc.2.1,hc.2.2,by simpa using h3,rfl,fun i hi=>?_⟩
    obtain ⟨y,hy1,hy2⟩:=h4 i i (by simp [hi])
    simp only [Option.bind_eq_some_iff] at hy2
    obtain ⟨cells,hc1,hc2⟩:=hy2
    exact ⟨cells,y,hc1,hy1,hc2⟩
   ·cases h
theorem trod_struct_f {fs:Array Field} {t:TypeId} (hu:P.underlying t=some (.struct fs)) {fuel:Nat} {cs:List Value} {x:DataW H×List MemPlace} (h:DataW.trod enc P w base spare held (fuel+1) t cs=some x) :
  cs.length=P.cellsOf t∧∃ xs:List (DataW H×List MemPlace),xs.length=fs.toList.length∧x.1=.agg (xs.map (·.1)) ∧
   ∀ (i:Nat) f,fs.toList[i]?=some f→∃ y,xs[i]?=some y∧DataW.trod enc P w base spare held fuel f.type ((cs.drop f.offset).take (P.cellsOf f.type))=some y:=by
  unfold DataW.trod at h
  rw [hu] at h
  simp only at h
  split at h
  all_goals (first|(simp_all;done)|skip)
  rename_i hl
  simp only [Option.map_eq_some_iff] at h
  obtain ⟨xs,h1,rfl⟩:=h
  obtain ⟨h3,h4⟩:=mapM_some h1
  exact ⟨hl,xs,h3,rfl,fun i f hf=>h4 i f hf⟩
end
section
variable {H:Type} {enc:TypeId×Value→H} {P:Program} {w:World} {spare:Nat→Bool} {held:Bool}
theorem slice_rep_f {e t:TypeId} (hu:P.underlying t=some (.slice e)) {n:Nat} (hn:P.cellsOf e=n) (hn0:0<n) {fuel:Nat} {cs:List Value} {x:DataW H×List MemPlace}
  (h:DataW.trod enc P w 0 spare held (fuel+1) t cs=some x) (Q:D→DataW H→Prop)
  (hE:∀ cells y,cells.length=n→DataW.trod enc P w 0 spare held fuel e cells=some y→∃ d v,v.cells.toList=cells∧VC n v∧Rep (g0 w) w d v∧Q d y.1) :
  ∃ ds v,cs=[v]∧Rep (g0 w) w (.sl .sh n ds) v∧ds.length≤maxLen∧((x.1=.nil∧ds=[])∨∃ els rest,x.1=.slice els rest∧els.length=ds.length∧∀ (i:Nat) d,ds[i]?=some d→∃ y,els[i]?=some y∧Q d y):=by
 rcases trod_slice_f hu h with ⟨rfl,hx⟩|⟨a,len,cap,elems,rest,rfl,hlc,hcm,hel,hx,hall⟩
 ·refine ⟨[],_,rfl, ?_,Nat.zero_le _,.inl ⟨hx,rfl⟩⟩
  unfold Rep
  exact ⟨none,0,rfl,Nat.le_refl _,trivial,fun h=>absurd rfl h⟩
 ·rw [hn] at hall
  have hch:∀ i,i<len→∃ d,∃ v:Value,∃ y:DataW H×List MemPlace,elems[i]?=some y∧VC n v∧Rep (g0 w) w d v∧Q d y.1∧∀ j,j<n→w.cell? ((a.add (i * n)).add j)=v.cells[j]?:=by
   intro i hi
   obtain ⟨cells,y,h1,h2,h3⟩:=hall i hi
   obtain ⟨h4,h5⟩:=cells_some h1
   obtain ⟨d,v,h6,h7,h8,h9⟩:=hE cells y h4 h3
   refine ⟨d,v,y,h2,h7,h8,h9,fun j hj=>?_⟩
   obtain ⟨c,hc1,hc2⟩:=h5 j hj
   rw [hc2,← Array.getElem?_toList,h6,hc1]
  have hds:∃ ds:List D,ds.length=len∧∀ i d,ds[i]?=some d→∃ v:Value,∃ y:DataW H×List MemPlace,elems[i]?=some y∧VC n v∧Rep (g0 w) w d v∧Q d y.1∧∀ j,j<n→w.cell? ((a.add (i * n)).add j)=v.cells[j]?:=by
   clear hall hx hel hlc hcm h
   induction len with
   | zero=>exact ⟨[],rfl,fun i d h=>by simp at h⟩
   | succ len ih =>
    obtain ⟨ds,h1,h2⟩:=ih fun i hi=>hch i (by omega)
    obtain ⟨d,v,y,h3⟩:=hch len (by omega)
    refine ⟨ds++[d],by simp [h1],fun i d' hi=>?_⟩
    rw [List.getElem?_append] at hi
    split at hi
    ·exact h2 i d' hi
    ·rename_i hni
     have:i=len:=by
      have:=(List.getElem?_eq_some_iff.1 hi).1
      simp at this
      omega
     subst this
     rw [h1] at hi
     simp at hi
     subst hi
     exact ⟨v,y,h3⟩
  obtain ⟨ds,hl,hd⟩:=hds
  refine ⟨ds,_,rfl, ?_,by omega,.inr ⟨_,rest,hx,by simp [hel,hl],fun i d hi=>?_⟩⟩
  ·unfold Rep
   refine ⟨some a,cap,by rw [hl],by omega,trivial,fun hne=>?_⟩
   have h00:0<ds.length:=List.length_pos_iff.2 hne
   have hspot:a.spot=none:=by
    obtain ⟨v,y,_,hvc,_,_,hc⟩:=hd 0 ds[0] (List.getElem?_eq_getElem h00)
    have:=hc 0 hn0
    have hv0:∃ u,v.cells[0]?=some u:=⟨v.cells[0]'(by rw [hvc.1];exact hn0),Array.getElem?_eq_getElem _⟩
    obtain ⟨u,hu⟩:=hv0
    rw [hu] at this
    have:=(cell_lt this).2
    revert this
    unfold Addr.add
    split<;>simp_all
   obtain ⟨b,off,sp⟩:=a
   simp only at hspot
   subst hspot
   refine ⟨b,off,rfl,RepRow.of_get fun i d hi=>?_⟩
   obtain ⟨v,y,_,hvc,hr,_,hc⟩:=hd i d hi
   refine ⟨v,hr,hvc,fun j hj=>?_⟩
   have:=hc j hj
   rw [add_off,add_off] at this
   refine ⟨?_,this⟩
   have hv0:∃ u,v.cells[j]?=some u:=⟨v.cells[j]'(by rw [hvc.1];exact hj),Array.getElem?_eq_getElem _⟩
   obtain ⟨u,hu⟩:=hv0
   rw [hu] at this
   exact .inl (cell_lt this).1
  ·obtain ⟨v,y,hy,_,_,hq,_⟩:=hd i d hi
   exact ⟨y.1,by simp [hy],hq⟩
end
end Go.Vm

/- slices.Sort and slices.Compact of texts,over a variable. -/
namespace Go.Vm
open Go.RowKit Go.Shelf Go.Sort Go.Proofs
def strsOf:List D→Option (List (List UInt8))
 | []=>some []
 | .str s::r=>(strsOf r).map (s::·)
 | _=>none
theorem strsOf_map (ss:List (List UInt8)):strsOf (ss.map .str)=some ss:=by
 induction ss with
 | nil=>rfl
 | cons s r ih=>simp [strsOf,ih]
theorem strsOf_eq:∀ {cs:List D} {ss:List (List UInt8)},strsOf cs=some ss→cs=ss.map .str
 | [],ss,h=>by simp only [strsOf,Option.some.injEq] at h;subst h;rfl
 | c::r,ss,h=>by
  unfold strsOf at h
  split at h
  ·rename_i e;cases e
  ·rename_i s r' e
   cases e
   simp only [Option.map_eq_some_iff] at h
   obtain ⟨a,ha,rfl⟩:=h
   rw [strsOf_eq ha];rfl
  ·cases h
def sorted (ss:List (List UInt8)):List (List UInt8):=ss.mergeSort fun x y=>decide (x≤y)
def onStrs (k off es len:Nat) (A:St) (F:List (List UInt8)→ORes):ORes :=
 if off=0∧es=1 then (A[k]?).bind fun
  | .cells cs=>if cs.length=len∧len<4611686018427387904 then (strsOf cs).bind F else none
  | _=>none else none
def sortX:List D→St→ORes
 | [.vsl k off es len],A=>onStrs k off es len A fun ss=>some (.ret (.tup []),A.set k (.cells ((sorted ss).map .str)))
 | _,_=>none
def compactX:List D→St→ORes
 | [.vsl k off es len],A=>onStrs k off es len A fun ss =>
   some (.ret (.vsl k 0 1 (Lib.compact ss).length),A.set k (.cells ((Lib.compact ss++List.replicate (ss.length - (Lib.compact ss).length) []).map .str)))
 | _,_=>none
theorem onStrs_eq {k off es len:Nat} {A:St} {F:List (List UInt8)→ORes} {r:Res×St} (h:onStrs k off es len A F=some r) :
  off=0∧es=1∧len<4611686018427387904∧∃ ss,A[k]?=some (.cells (ss.map .str))∧ss.length=len∧F ss=some r:=by
 unfold onStrs at h
 split at h
 case isFalse=>cases h
 rename_i h0
 simp only [Option.bind_eq_some_iff] at h
 obtain ⟨s,hs,h⟩:=h
 split at h
 case h_2=>cases h
 rename_i cs
 split at h
 case isFalse=>cases h
 rename_i hl
 simp only [Option.bind_eq_some_iff] at h
 obtain ⟨ss,h1,h2⟩:=h
 have:=strsOf_eq h1
 subst this
 exact ⟨h0.1,h0.2,hl.2,ss,hs,by simpa using hl.1,h2⟩
theorem onStrs_run {k len:Nat} {A:St} {F:List (List UInt8)→ORes} {ss:List (List UInt8)} (h:A[k]?=some (.cells (ss.map .str))) (hl:ss.length=len) (hb:len<4611686018427387904):onStrs k 0 1 len A F=F ss:=by
 subst hl
 simp [onStrs,h,strsOf_map,hb]
theorem putStrs {g:Gh} {A:St} {w:World} {k b o n x:Nat} (I:Inv g A w) (hk:k<g.len) (hm:g.m k=.var b o n x) {ss:List (List UInt8)} (hA:A[k]?=some (.cells (ss.map .str))) (h0:0<ss.length) :
  Holds encStr w b o ss.toArray∧b<w.heap.size∧∀ (ys:List (List UInt8)),ys.length=ss.length→∀ (q:Nat) (os:Array Obj),
   Ext g w g (grow (putRow encStr (Sort.ahead w q) b o ys.toArray) os)∧Inv g (A.set k (.cells (ys.map .str))) (grow (putRow encStr (Sort.ahead w q) b o ys.toArray) os):=by
 have hsl:=I.slot k _ hA
 rw [hm] at hsl
 obtain ⟨⟨hn,hx⟩,hcs⟩:=hsl
 simp only [List.length_map] at hn
 subst hn
 have hH:Holds encStr w b o ss.toArray:=by
  intro j hj
  have hj:j<ss.length:=by simpa using hj
  obtain ⟨v,h1,h2,h3,h4⟩:=hcs j (.str ss[j]) (by simp [hj])
  simp only [Rep] at h4
  obtain ⟨y,rfl,hy⟩:=h4
  refine ⟨?_,h2⟩
  rw [h1]
  simp only [Option.some.injEq,Value.string.injEq]
  have:ss.toArray[j]! = ss[j]:=by simp [hj]
  rw [this,← hy]
 have hb:b<w.heap.size:=I.lt (off:=o) hk (by rw [hm];exact ⟨rfl,by omega⟩)
 refine ⟨hH,hb,fun ys hy q os=>?_⟩
 have hHq:Holds encStr (Sort.ahead w q) b o ss.toArray:=hH
 have hb':b<(putRow encStr (Sort.ahead w q) b o ys.toArray).heap.size:=by simpa using hb
 have hcell:∀ b' off,b'<w.heap.size→(b'≠b∨off<o∨o+ss.length≤off)→(grow (putRow encStr (Sort.ahead w q) b o ys.toArray) os).cell? ⟨b',off,none⟩=w.cell? ⟨b',off,none⟩:=by
  intro b' off h1 h2
  rw [cell?_grow _ _ _ (by simpa using h1),cell?_putRow_other _ _ _ _ _ _ (by simpa [hy] using h2)]
  rfl
 have hfz:∀ b' off,b'<w.heap.size→(grow (putRow encStr (Sort.ahead w q) b o ys.toArray) os).frozen? ⟨b',off,none⟩=w.frozen? ⟨b',off,none⟩:=by
  intro b' off h1
  rw [frozen?_grow _ _ _ (by simpa using h1),frozen?_putRow]
  rfl
 have W0:Ext g w g (grow (putRow encStr (Sort.ahead w q) b o ys.toArray) os)∧∀ s,SlotOk g (grow (putRow encStr (Sort.ahead w q) b o ys.toArray) os) (g.m k) s→Inv g (A.set k s) (grow (putRow encStr (Sort.ahead w q) b o ys.toArray) os):=by
  refine I.write k hk rfl rfl rfl (by simp) (fun b' h1 h2=>?_) (fun b' off h1 h2=>⟨?_, ?_⟩)
  ·have hne:b'≠b:=fun e=>h2 o (by rw [hm];exact ⟨e,by omega⟩)
   rw [heap_grow_old _ _ (by simpa using h1)]
   simp only [putRow,mapBlock,Array.getElem?_modify,if_neg (Ne.symm hne),heap_ahead]
  ·refine hcell _ _ h1 ?_
   rw [hm] at h2
   refine Classical.byContradiction fun hc=>h2 ⟨?_, ?_⟩<;>omega
  ·exact hfz _ _ h1
 obtain ⟨E,W⟩:=W0
 refine ⟨E,W _ ?_⟩
 rw [hm]
 refine ⟨⟨by simp [hy],fun hp=>⟨by simp;omega,fun off'=>(hfz b off' hb).trans ((hx.1 hp).2 off')⟩,fun j h1 h2=>?_⟩,fun j d hj=>?_⟩
 ·rw [hcell _ _ hb (.inr (.inr (by omega))),hfz _ _ hb]
  exact hx.2 j h1 h2
 ·simp only [List.getElem?_map,Option.map_eq_some_iff] at hj
  obtain ⟨y,hj,rfl⟩:=hj
  obtain ⟨hjl,rfl⟩:=List.getElem?_eq_some_iff.1 hj
  refine ⟨encStr ys[j], ?_, ?_,rfl, ?_⟩
  ·rw [cell?_grow _ _ _ hb',cell?_putRow encStr _ _ _ _ _ hHq (by simp [hy]) j (by simpa using hjl)]
   simp [hjl]
  ·rw [hfz _ _ hb]
   exact (hH j (by simp;omega)).2
  ·simp [Rep]
variable {P:Program}
theorem vsl_var {g:Gh} {A:St} {w:World} (I:Inv g A w) {k len:Nat} {cs:List D} (hA:A[k]?=some (.cells cs)) {v:Value} (h:Rep g w (.vsl k 0 1 len) v) :
  k<g.len∧∃ b o x a cap,g.m k=.var b o cs.length x∧v=.slice a len cap∧len≤cap∧(0<len→a=some ⟨b,o,none⟩):=by
 simp only [Rep] at h
 obtain ⟨hk,a,cap,rfl,hcap,hnw,hv⟩:=h
 have hsl:=I.slot k _ hA
 cases hm:g.m k with
 | none=>rw [hm] at hsl;exact hsl.elim
 | tok r m=>rw [hm] at hsl;exact hsl.elim
 | obj l=>rw [hm] at hsl;exact hsl.elim
 | wait=>exact absurd hm hnw
 | var b o m x =>
 rw [hm] at hsl
 obtain ⟨⟨rfl,hxc⟩,hcs⟩:=hsl
 obtain ⟨v1,v2,v3⟩:=hv b o _ x hm
 exact ⟨hk,b,o,x,a,cap,rfl,rfl,hcap.1,fun h=>by
  rcases v2 with h2|h2
  ·simpa using h2
  ·omega⟩
theorem sorted_length (ss:List (List UInt8)):(sorted ss).length=ss.length:=by simp [sorted]
theorem set_self {A:St} {k:Nat} {s:Slot} (h:A[k]?=some s):A.set k s=A:=by
 apply List.ext_getElem?
 intro j
 rw [List.getElem?_set]
 split
 ·rename_i e
  subst e
  obtain ⟨h1,h2⟩:=List.getElem?_eq_some_iff.1 h
  simp [h1,h2]
 ·rfl
theorem sort_sound {f:FuncId} {fn:Func} (hf:P.funcs[f]?=some fn) (hok:fnOk fn=true) {ρ:Ren} (L:Lays.n190 P ρ) (hρ:ρ.f 190=f):∀ args A r,sortX args A=some r→Sound P f args A r:=by
 intro args A r h
 unfold sortX at h
 split at h
 case h_2=>cases h
 rename_i k off es len
 obtain ⟨rfl,rfl,hbig,ss,hA,hl,h⟩:=onStrs_eq h
 cases h
 intro g w vs I hr
 left
 refine ⟨fnOk_run hf hok _ _, ?_⟩
 simp only [RepL] at hr
 obtain ⟨v,_,rfl,hv,rfl⟩:=hr
 obtain ⟨hk,b,o,x,a,cap,hm,rfl,hcap,ha⟩:=vsl_var I hA hv
 subst hρ
 by_cases h0:0<ss.length
 ·obtain ⟨hH,hb,W⟩:=putStrs I hk hm hA h0
  rw [ha (by omega),← hl]
  refine (Any.slices_Sort_string L b o cap ss w hH hb (by omega)).mono ?_
  rintro e w' ⟨rfl,q,os,rfl⟩
  obtain ⟨E,I'⟩:=W (sorted ss) (sorted_length ss) q os
  exact ⟨g,E,I',by simp [EndOk,Rep,RepL]⟩
 ·have:ss=[]:=List.length_eq_zero_iff.1 (by omega)
  subst this
  simp only [List.length_nil] at hl
  subst hl
  refine (Any.slices_Sort_string_none L a cap w).mono ?_
  rintro e w' ⟨rfl,rfl⟩
  refine ⟨g,Ext.refl _ _, ?_,by simp [EndOk,Rep,RepL]⟩
  have:(Slot.cells (List.map D.str (sorted [])))=.cells (List.map D.str []):=by simp [sorted]
  rw [this,set_self hA];exact I
theorem compact_sound {f:FuncId} {fn:Func} (hf:P.funcs[f]?=some fn) (hok:fnOk fn=true) {ρ:Ren} (L:Lays.n194 P ρ) (hρ:ρ.f 194=f):∀ args A r,compactX args A=some r→Sound P f args A r:=by
 intro args A r h
 unfold compactX at h
 split at h
 case h_2=>cases h
 rename_i k off es len
 obtain ⟨rfl,rfl,hbig,ss,hA,hl,h⟩:=onStrs_eq h
 cases h
 intro g w vs I hr
 left
 refine ⟨fnOk_run hf hok _ _, ?_⟩
 simp only [RepL] at hr
 obtain ⟨v,_,rfl,hv,rfl⟩:=hr
 obtain ⟨hk,b,o,x,a,cap,hm,rfl,hcap,ha⟩:=vsl_var I hA hv
 have hle:=Lib.compact_length_le ss
 subst hρ
 by_cases h0:0<ss.length
 ·obtain ⟨hH,hb,W⟩:=putStrs I hk hm hA h0
  rw [ha (by omega),← hl]
  refine (Any.slices_Compact_string L b o cap ss w hH (by omega) (by omega)).mono ?_
  rintro e w' ⟨rfl,q,rfl⟩
  obtain ⟨E,I'⟩:=W (Lib.compact ss++List.replicate (ss.length - (Lib.compact ss).length) []) (by simp;omega) q #[]
  rw [grow_empty] at E I'
  refine ⟨g,E,I', ?_⟩
  have hcb:cap≤9223372036854775807:=by
   simp only [Rep] at hv
   obtain ⟨_,a1,cap1,e1,hc1,_⟩:=hv
   simp only [Value.slice.injEq] at e1
   obtain ⟨_,_,rfl⟩:=e1
   exact hc1.2.2
  simp only [EndOk,Rep]
  refine ⟨hk,_,cap,rfl,⟨by omega,(fun h=>by cases h),hcb⟩,by rw [hm];simp,fun b' o' n' x' h'=>?_⟩
  rw [hm] at h'
  simp only [Bind.var.injEq,List.length_map] at h'
  obtain ⟨rfl,rfl,rfl,rfl⟩:=h'
  simp only [Rep] at hv
  obtain ⟨_,a1,cap1,e1,_,_,hv⟩:=hv
  simp only [Value.slice.injEq] at e1
  obtain ⟨rfl,_,rfl⟩:=e1
  obtain ⟨v1,v2,v3⟩:=hv _ _ _ _ hm
  refine ⟨by omega,.inl rfl,fun h=>?_⟩
  have:=v3 (by simp;omega)
  omega
 ·have:ss=[]:=List.length_eq_zero_iff.1 (by omega)
  subst this
  simp only [List.length_nil] at hl
  subst hl
  refine (Any.slices_Compact_string_empty L a cap w).mono ?_
  rintro e w' ⟨rfl,rfl⟩
  have e1:Lib.compact ([]:List (List UInt8))=[]:=rfl
  refine ⟨g,Ext.refl _ _, ?_,by simpa [EndOk,e1] using hv⟩
  simp only [e1,List.length_nil,Nat.sub_zero,List.replicate_zero,List.append_nil]
  rw [set_self hA];exact I
end Go.Vm
