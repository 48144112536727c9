/- VmArg, VmArg2, VmArg3, VmSort in one text. -/
import Derived.Test.YtagmpieoalkneaaGreatDoorVmSimp
import GoSem.ClaimChange
import Derived.Test.YtagmpieoalkneaaGreatDoorVmPure3
import Derived.Test.YtagmpieoalkneaaGreatDoorVmFun
import Derived.Shelf.Sort.Plain
import Derived.Shelf.Slices.In.SortNone
import Derived.Shelf.Slices.CompactS
import Derived.Lib.RowBridge
set_option linter.all false
/- How an argument's reading opens,one level at a time. -/
namespace Go.Vm
open Go.RowKit
variable {H : Type} {enc : TypeId × Value → H} {P : Program} {w : World} {base : Nat} {spare : Nat → Bool} {held : Bool}

end Go.Vm

/- Slices among the arguments stand for rows of data. -/
namespace Go.Vm
open Go.RowKit
variable {H : Type} {enc : TypeId × Value → H} {P : Program} {w : World} {spare : Nat → Bool} {held : Bool}

def g0 (w : World) : Gh:={ base:=w.heap.size,S:=fun _ _ => False,len:=0,m:=fun _ => .none }
end Go.Vm

/- Arguments of a type that holds itself: one level at a time,with what is left of the fuel. -/
namespace Go.Vm
open Go.RowKit
section
variable {H : Type} {enc : TypeId × Value → H} {P : Program} {w : World} {base : Nat} {spare : Nat → Bool} {held : Bool}
theorem trod_string {t : TypeId} (hu : P.underlying t = some .string) {fuel : Nat} {cs : List Value} {x : DataW H × List MemPlace} (h : DataW.trod enc P w base spare held fuel t cs = some x) :
    ∃ s,cs = [.string s] ∧ x.1 = .lit (.string s.data.toList):=by
  cases fuel with
  | zero => cases h
  | succ fuel =>
    unfold DataW.trod at h
    rw [hu] at h
    simp only at h
    split at h
    all_goals (first | (simp_all; done) | skip)
    all_goals (split at h <;> simp_all)
    all_goals (subst h; rfl)
end
section
variable {H : Type} {enc : TypeId × Value → H} {P : Program} {w : World} {spare : Nat → Bool} {held : Bool}
end
end Go.Vm

/- slices.Sort and slices.Compact of texts,over a variable. -/
namespace Go.Vm
open Go.RowKit Go.Shelf Go.Sort Go.Proofs
def strsOf : List D → Option (List (List UInt8))
  | [] => some []
  | .str s :: r => (strsOf r).map (s :: ·)
  | _ => none
theorem strsOf_map (ss : List (List UInt8)) : strsOf (ss.map .str) = some ss:=by
  induction ss with
  | nil => rfl
  | cons s r ih => simp [strsOf,ih]
theorem strsOf_eq : ∀ {cs : List D} {ss : List (List UInt8)},strsOf cs = some ss → cs = ss.map .str
  | [],ss,h => by simp only [strsOf,Option.some.injEq] at h; subst h; rfl
  | c :: r,ss,h => by
    unfold strsOf at h
    split at h
    · rename_i e; cases e
    · rename_i s r' e
      cases e
      simp only [Option.map_eq_some_iff] at h
      obtain ⟨a,ha,rfl⟩:=h
      rw [strsOf_eq ha]; rfl
    · cases h
def sorted (ss : List (List UInt8)) : List (List UInt8):=ss.mergeSort fun x y => decide (x ≤ y)
def onStrs (k off es len : Nat) (A : St) (F : List (List UInt8) → ORes) : ORes :=
  if off = 0 ∧ es = 1 then (A[k]?).bind fun
    | .cells cs => if cs.length = len ∧ len < 4611686018427387904 then (strsOf cs).bind F else none
    | _ => none else none
def sortX : List D → St → ORes
  | [.vsl k off es len],A => onStrs k off es len A fun ss => some (.ret (.tup []),A.set k (.cells ((sorted ss).map .str)))
  | _,_ => none
def compactX : List D → St → ORes
  | [.vsl k off es len],A => onStrs k off es len A fun ss =>
      some (.ret (.vsl k 0 1 (Lib.compact ss).length),A.set k (.cells ((Lib.compact ss ++ List.replicate (ss.length - (Lib.compact ss).length) []).map .str)))
  | _,_ => none
theorem onStrs_eq {k off es len : Nat} {A : St} {F : List (List UInt8) → ORes} {r : Res × St} (h : onStrs k off es len A F = some r) :
    off = 0 ∧ es = 1 ∧ len < 4611686018427387904 ∧ ∃ ss,A[k]? = some (.cells (ss.map .str)) ∧ ss.length = len ∧ F ss = some r:=by
  unfold onStrs at h
  split at h
  case isFalse => cases h
  rename_i h0
  simp only [Option.bind_eq_some_iff] at h
  obtain ⟨s,hs,h⟩:=h
  split at h
  case h_2 => cases h
  rename_i cs
  split at h
  case isFalse => cases h
  rename_i hl
  simp only [Option.bind_eq_some_iff] at h
  obtain ⟨ss,h1,h2⟩:=h
  have:=strsOf_eq h1
  subst this
  exact ⟨h0.1,h0.2,hl.2,ss,hs,by simpa using hl.1,h2⟩
theorem onStrs_run {k len : Nat} {A : St} {F : List (List UInt8) → ORes} {ss : List (List UInt8)} (h : A[k]? = some (.cells (ss.map .str))) (hl : ss.length = len) (hb : len < 4611686018427387904) : onStrs k 0 1 len A F = F ss:=by
  subst hl
  simp [onStrs,h,strsOf_map,hb]
theorem putStrs {g : Gh} {A : St} {w : World} {k b o n x : Nat} (I : Inv g A w) (hk : k < g.len) (hm : g.m k = .var b o n x) {ss : List (List UInt8)} (hA : A[k]? = some (.cells (ss.map .str))) (h0 : 0 < ss.length) :
    Holds encStr w b o ss.toArray ∧ b < w.heap.size ∧ ∀ (ys : List (List UInt8)),ys.length = ss.length → ∀ (q : Nat) (os : Array Obj),
      Ext g w g (grow (putRow encStr (Sort.ahead w q) b o ys.toArray) os) ∧ Inv g (A.set k (.cells (ys.map .str))) (grow (putRow encStr (Sort.ahead w q) b o ys.toArray) os):=by
  have hsl:=I.slot k _ hA
  rw [hm] at hsl
  obtain ⟨⟨hn,hx⟩,hcs⟩:=hsl
  simp only [List.length_map] at hn
  subst hn
  have hH : Holds encStr w b o ss.toArray:=by
    intro j hj
    have hj : j < ss.length:=by simpa using hj
    obtain ⟨v,h1,h2,h3,h4⟩:=hcs j (.str ss[j]) (by simp [hj])
    simp only [Rep] at h4
    obtain ⟨y,rfl,hy⟩:=h4
    refine ⟨?_,h2⟩
    rw [h1]
    simp only [Option.some.injEq,Value.string.injEq]
    have : ss.toArray[j]! = ss[j]:=by simp [hj]
    rw [this,← hy]
  have hb : b < w.heap.size:=I.lt (off:=o) hk (by rw [hm]; exact ⟨rfl,by omega⟩)
  refine ⟨hH,hb,fun ys hy q os => ?_⟩
  have hHq : Holds encStr (Sort.ahead w q) b o ss.toArray:=hH
  have hb' : b < (putRow encStr (Sort.ahead w q) b o ys.toArray).heap.size:=by simpa using hb
  have hcell : ∀ b' off,b' < w.heap.size → (b' ≠ b ∨ off < o ∨ o + ss.length ≤ off) → (grow (putRow encStr (Sort.ahead w q) b o ys.toArray) os).cell? ⟨b',off,none⟩ = w.cell? ⟨b',off,none⟩:=by
    intro b' off h1 h2
    rw [cell?_grow _ _ _ (by simpa using h1),cell?_putRow_other _ _ _ _ _ _ (by simpa [hy] using h2)]
    rfl
  have hfz : ∀ b' off,b' < w.heap.size → (grow (putRow encStr (Sort.ahead w q) b o ys.toArray) os).frozen? ⟨b',off,none⟩ = w.frozen? ⟨b',off,none⟩:=by
    intro b' off h1
    rw [frozen?_grow _ _ _ (by simpa using h1),frozen?_putRow]
    rfl
  have W0 : Ext g w g (grow (putRow encStr (Sort.ahead w q) b o ys.toArray) os) ∧ ∀ s,SlotOk g (grow (putRow encStr (Sort.ahead w q) b o ys.toArray) os) (g.m k) s → Inv g (A.set k s) (grow (putRow encStr (Sort.ahead w q) b o ys.toArray) os):=by
    refine I.write k hk rfl rfl rfl (by simp) (fun b' h1 h2 => ?_) (fun b' off h1 h2 => ⟨?_, ?_⟩)
    · have hne : b' ≠ b:=fun e => h2 o (by rw [hm]; exact ⟨e,by omega⟩)
      rw [heap_grow_old _ _ (by simpa using h1)]
      simp only [putRow,mapBlock,Array.getElem?_modify,if_neg (Ne.symm hne),heap_ahead]
    · refine hcell _ _ h1 ?_
      rw [hm] at h2
      refine Classical.byContradiction fun hc => h2 ⟨?_, ?_⟩ <;> omega
    · exact hfz _ _ h1
  obtain ⟨E,W⟩:=W0
  refine ⟨E,W _ ?_⟩
  rw [hm]
  refine ⟨⟨by simp [hy],fun hp => ⟨by simp; omega,fun off' => (hfz b off' hb).trans ((hx.1 hp).2 off')⟩,fun j h1 h2 => ?_⟩,fun j d hj => ?_⟩
  · rw [hcell _ _ hb (.inr (.inr (by omega))),hfz _ _ hb]
    exact hx.2 j h1 h2
  · simp only [List.getElem?_map,Option.map_eq_some_iff] at hj
    obtain ⟨y,hj,rfl⟩:=hj
    obtain ⟨hjl,rfl⟩:=List.getElem?_eq_some_iff.1 hj
    refine ⟨encStr ys[j], ?_, ?_,rfl, ?_⟩
    · rw [cell?_grow _ _ _ hb',cell?_putRow encStr _ _ _ _ _ hHq (by simp [hy]) j (by simpa using hjl)]
      simp [hjl]
    · rw [hfz _ _ hb]
      exact (hH j (by simp; omega)).2
    · simp [Rep]
variable {P : Program}
theorem vsl_var {g : Gh} {A : St} {w : World} (I : Inv g A w) {k len : Nat} {cs : List D} (hA : A[k]? = some (.cells cs)) {v : Value} (h : Rep g w (.vsl k 0 1 len) v) :
    k < g.len ∧ ∃ b o x a cap,g.m k = .var b o cs.length x ∧ v = .slice a len cap ∧ len ≤ cap ∧ (0 < len → a = some ⟨b,o,none⟩):=by
  simp only [Rep] at h
  obtain ⟨hk,a,cap,rfl,hcap,hnw,hv⟩:=h
  have hsl:=I.slot k _ hA
  cases hm : g.m k with
  | none => rw [hm] at hsl; exact hsl.elim
  | tok r m => rw [hm] at hsl; exact hsl.elim
  | obj l => rw [hm] at hsl; exact hsl.elim
  | wait => exact absurd hm hnw
  | var b o m x =>
  rw [hm] at hsl
  obtain ⟨⟨rfl,hxc⟩,hcs⟩:=hsl
  obtain ⟨v1,v2,v3⟩:=hv b o _ x hm
  exact ⟨hk,b,o,x,a,cap,rfl,rfl,hcap.1,fun h => by
    rcases v2 with h2 | h2
    · simpa using h2
    · omega⟩
theorem sorted_length (ss : List (List UInt8)) : (sorted ss).length = ss.length:=by simp [sorted]
theorem set_self {A : St} {k : Nat} {s : Slot} (h : A[k]? = some s) : A.set k s = A:=by
  apply List.ext_getElem?
  intro j
  rw [List.getElem?_set]
  split
  · rename_i e
    subst e
    obtain ⟨h1,h2⟩:=List.getElem?_eq_some_iff.1 h
    simp [h1,h2]
  · rfl
theorem sort_sound {f : FuncId} {fn : Func} (hf : P.funcs[f]? = some fn) (hok : fnOk fn = true) {ρ : Ren} (L : Lays.n190 P ρ) (hρ : ρ.f 190 = f) : ∀ args A r,sortX args A = some r → Sound P f args A r:=by
  intro args A r h
  unfold sortX at h
  split at h
  case h_2 => cases h
  rename_i k off es len
  obtain ⟨rfl,rfl,hbig,ss,hA,hl,h⟩:=onStrs_eq h
  cases h
  intro g w vs I hr
  left
  refine ⟨fnOk_run hf hok _ _, ?_⟩
  simp only [RepL] at hr
  obtain ⟨v,_,rfl,hv,rfl⟩:=hr
  obtain ⟨hk,b,o,x,a,cap,hm,rfl,hcap,ha⟩:=vsl_var I hA hv
  subst hρ
  by_cases h0 : 0 < ss.length
  · obtain ⟨hH,hb,W⟩:=putStrs I hk hm hA h0
    rw [ha (by omega),← hl]
    refine (Any.slices_Sort_string L b o cap ss w hH hb (by omega)).mono ?_
    rintro e w' ⟨rfl,q,os,rfl⟩
    obtain ⟨E,I'⟩:=W (sorted ss) (sorted_length ss) q os
    exact ⟨g,E,I',by simp [EndOk,Rep,RepL]⟩
  · have : ss = []:=List.length_eq_zero_iff.1 (by omega)
    subst this
    simp only [List.length_nil] at hl
    subst hl
    refine (Any.slices_Sort_string_none L a cap w).mono ?_
    rintro e w' ⟨rfl,rfl⟩
    refine ⟨g,Ext.refl _ _, ?_,by simp [EndOk,Rep,RepL]⟩
    have : (Slot.cells (List.map D.str (sorted []))) = .cells (List.map D.str []):=by simp [sorted]
    rw [this,set_self hA]; exact I
theorem compact_sound {f : FuncId} {fn : Func} (hf : P.funcs[f]? = some fn) (hok : fnOk fn = true) {ρ : Ren} (L : Lays.n194 P ρ) (hρ : ρ.f 194 = f) : ∀ args A r,compactX args A = some r → Sound P f args A r:=by
  intro args A r h
  unfold compactX at h
  split at h
  case h_2 => cases h
  rename_i k off es len
  obtain ⟨rfl,rfl,hbig,ss,hA,hl,h⟩:=onStrs_eq h
  cases h
  intro g w vs I hr
  left
  refine ⟨fnOk_run hf hok _ _, ?_⟩
  simp only [RepL] at hr
  obtain ⟨v,_,rfl,hv,rfl⟩:=hr
  obtain ⟨hk,b,o,x,a,cap,hm,rfl,hcap,ha⟩:=vsl_var I hA hv
  have hle:=Lib.compact_length_le ss
  subst hρ
  by_cases h0 : 0 < ss.length
  · obtain ⟨hH,hb,W⟩:=putStrs I hk hm hA h0
    rw [ha (by omega),← hl]
    refine (Any.slices_Compact_string L b o cap ss w hH (by omega) (by omega)).mono ?_
    rintro e w' ⟨rfl,q,rfl⟩
    obtain ⟨E,I'⟩:=W (Lib.compact ss ++ List.replicate (ss.length - (Lib.compact ss).length) []) (by simp; omega) q #[]
    rw [grow_empty] at E I'
    refine ⟨g,E,I', ?_⟩
    have hcb : cap ≤ 9223372036854775807:=by
      simp only [Rep] at hv
      obtain ⟨_,a1,cap1,e1,hc1,_⟩:=hv
      simp only [Value.slice.injEq] at e1
      obtain ⟨_,_,rfl⟩:=e1
      exact hc1.2.2
    simp only [EndOk,Rep]
    refine ⟨hk,_,cap,rfl,⟨by omega,(fun h => by cases h),hcb⟩,by rw [hm]; simp,fun b' o' n' x' h' => ?_⟩
    rw [hm] at h'
    simp only [Bind.var.injEq,List.length_map] at h'
    obtain ⟨rfl,rfl,rfl,rfl⟩:=h'
    simp only [Rep] at hv
    obtain ⟨_,a1,cap1,e1,_,_,hv⟩:=hv
    simp only [Value.slice.injEq] at e1
    obtain ⟨rfl,_,rfl⟩:=e1
    obtain ⟨v1,v2,v3⟩:=hv _ _ _ _ hm
    refine ⟨by omega,.inl rfl,fun h => ?_⟩
    have:=v3 (by simp; omega)
    omega
  · have : ss = []:=List.length_eq_zero_iff.1 (by omega)
    subst this
    simp only [List.length_nil] at hl
    subst hl
    refine (Any.slices_Compact_string_empty L a cap w).mono ?_
    rintro e w' ⟨rfl,rfl⟩
    have e1 : Lib.compact ([] : List (List UInt8)) = []:=rfl
    refine ⟨g,Ext.refl _ _, ?_,by simpa [EndOk,e1] using hv⟩
    simp only [e1,List.length_nil,Nat.sub_zero,List.replicate_zero,List.append_nil]
    rw [set_self hA]; exact I
end Go.Vm
