/- RxNR, VmSt, RxS1 in one text. -/
import Derived.Test.YtagmpieoalkneaaGreatDoorRxOk
import Derived.Test.YtagmpieoalkneaaGreatDoorVmSimp
import Derived.Test.YtagmpieoalkneaaGreatDoorRxN1
import Derived.Test.YtagmpieoalkneaaGreatDoorRxN3
import Derived.Test.YtagmpieoalkneaaGreatDoorRxN5
import Derived.Test.YtagmpieoalkneaaGreatDoorRxI6
set_option linter.all false
namespace Go.Vm.Rx
open Go.Proofs
set_option maxRecDepth 100000
set_option maxHeartbeats 0
def e23_8 (t6 t7:D):List D:=sp [(6,t6),(0,t7)] 32
variable (M:Mode) (call:CallT) {lx:List Nat→List St→Env→St→ORes} {ly:List Nat→List St→Env→St→Option (Option D×St)} (k:Nat) (a0 a1 a2 a3 a4 p:D) (A:St) (e:Env)
section
attribute [local irreducible] bn mp ifb D.bool? D.int? D.str? D.agg? D.cell? D.cellsT ofCells guardB layCells eqOf binO unD convO sliceStrO sliceSlO fieldAddrO fieldO indexAddrO indexStrO assertV extractD nilCheckD lenStrO lenSlO minMaxD loadO storeO boxO sliceParts makeO appendO litO tokO deferO bytesConvO panicD applyD Kept leaveD D.shut D.shutL guardP leavesD shV recBusy recSet closeSt endX seqCall seqI exS leaveM D.canon D.canonL Res.elim allocO sLen sApp sTake gkM gsM gwM clM jn Env.g yldB mapGetO mapPutO mapEntryO entryStoreO mapDelO makeMapR mapLenO keyK eqKS
noncomputable def ng23_8:Nf (roundR M Tryz.prog rxHint kk call lx 23 k e (cAt Tryz.prog 23 [0,1,0,1,1,1,1,1]) [a0] A):=⟨_,by conv=>lhs;reduce;simp only [go_sem,Int.reduceOfNat,Int.reduceNegSucc,UInt8.reduceOfNat]⟩
noncomputable def nd59p:Nf (defR M Tryz.prog rxHint kk call ly 59 [a0,a1,a2,a3] (some p) A):=⟨_,by conv=>lhs;reduce;simp only [go_sem,Int.reduceOfNat,Int.reduceNegSucc,UInt8.reduceOfNat]⟩
noncomputable def nd59n:Nf (defR M Tryz.prog rxHint kk call ly 59 [a0,a1,a2,a3] none A):=⟨_,by conv=>lhs;reduce;simp only [go_sem,Int.reduceOfNat,Int.reduceNegSucc,UInt8.reduceOfNat]⟩
noncomputable def nd79p:Nf (defR M Tryz.prog rxHint kk call ly 79 [a0] (some p) A):=⟨_,by conv=>lhs;reduce;simp only [go_sem,Int.reduceOfNat,Int.reduceNegSucc,UInt8.reduceOfNat]⟩
noncomputable def nd79n:Nf (defR M Tryz.prog rxHint kk call ly 79 [a0] none A):=⟨_,by conv=>lhs;reduce;simp only [go_sem,Int.reduceOfNat,Int.reduceNegSucc,UInt8.reduceOfNat]⟩
end
noncomputable def g23_8 (t6 t7:D):ORes:=(ng23_8 mL (Run Tryz.prog rxA) k a0 A ⟨e23_8 t6 t7,[]⟩ (lx:=fun _ _ _ _=>none)).1
theorem rg23_8 (k:Nat) (a0 t6 t7:D) (A:St) (hk:A[k]?=some (.loop 23 (e23_8 t6 t7) (cAt Tryz.prog 23 [0,1,0,1,1,1,1,1]) .ready)):Run Tryz.prog rxA rOff [.tup [.yld true k],.tup [a0]] A=g23_8 k a0 A t6 t7:=by
 obtain ⟨lp,h⟩:=Run_roundR Tryz.prog rxA kk (rf:=cAt Tryz.prog 23 [0,1,0,1,1,1,1,1]) (okC_rf (okf rfl) rfl) hk rfl [a0]
 exact h.trans (ng23_8 ..).2
noncomputable def d59p:Option (Option D×St):=(nd59p mL (Run Tryz.prog rxA) a0 a1 a2 a3 p A (ly:=fun _ _ _ _=>none)).1
theorem rd59p:Dcall Tryz.prog rxA (.fn (.func 59) [] [a0,a1,a2,a3]) [] (some p) A=d59p a0 a1 a2 a3 p A:=by
 obtain ⟨lp,h⟩:=Dcall_eqR Tryz.prog rxA kk (okf (f:=59) rfl) [] [a0,a1,a2,a3] [] (some p) A
 exact h.trans (nd59p ..).2
noncomputable def d59n:Option (Option D×St):=(nd59n mL (Run Tryz.prog rxA) a0 a1 a2 a3 A (ly:=fun _ _ _ _=>none)).1
theorem rd59n:Dcall Tryz.prog rxA (.fn (.func 59) [] [a0,a1,a2,a3]) [] none A=d59n a0 a1 a2 a3 A:=by
 obtain ⟨lp,h⟩:=Dcall_eqR Tryz.prog rxA kk (okf (f:=59) rfl) [] [a0,a1,a2,a3] [] none A
 exact h.trans (nd59n ..).2
noncomputable def d79p:Option (Option D×St):=(nd79p mL (Run Tryz.prog rxA) a0 p A (ly:=fun _ _ _ _=>none)).1
theorem rd79p:Dcall Tryz.prog rxA (.fn (.func 79) [] []) [a0] (some p) A=d79p a0 p A:=by
 obtain ⟨lp,h⟩:=Dcall_eqR Tryz.prog rxA kk (okf (f:=79) rfl) [] [] [a0] (some p) A
 exact h.trans (nd79p ..).2
noncomputable def d79n:Option (Option D×St):=(nd79n mL (Run Tryz.prog rxA) a0 A (ly:=fun _ _ _ _=>none)).1
theorem rd79n:Dcall Tryz.prog rxA (.fn (.func 79) [] []) [a0] none A=d79n a0 A:=by
 obtain ⟨lp,h⟩:=Dcall_eqR Tryz.prog rxA kk (okf (f:=79) rfl) [] [] [a0] none A
 exact h.trans (nd79n ..).2
end Go.Vm.Rx

/- Slots that are written again and again,and new slots behind a store. -/
namespace Go.Vm
open Go.RowKit

def st (A:St) (k:Nat) (cs:List D):St:=A.set k (.cells cs)
theorem st_length (A:St) (k:Nat) (cs:List D):(st A k cs).length=A.length:=by simp [st]
theorem st_k {A:St} {k:Nat} (cs:List D) (hk:k<A.length):(st A k cs)[k]?=some (.cells cs):=by
 unfold st;rw [List.getElem?_set_self hk]
theorem st_st (A:St) (k:Nat) (cs cs':List D):st (st A k cs) k cs'=st A k cs':=by unfold st;rw [List.set_set]
theorem st_load {A:St} {k:Nat} {cs:List D} {g:Bool} {n off:Nat} (hk:k<A.length):loadO g n (.ref k off) (st A k cs)=ofCells g cs off n:=load_ref (st_k cs hk)
theorem st_other {A:St} {k j:Nat} {cs:List D} (h:j≠k):(st A k cs)[j]?=A[j]?:=by
 unfold st;rw [List.getElem?_set_ne (Ne.symm h)]
theorem st_store {A:St} {k:Nat} {cs:List D} {g:Bool} {n off:Nat} {d:D} (hk:k<A.length):storeO g n (.ref k off) d (st A k cs)=mp (layCells g n off cs d) fun cs'=>st A k cs':=by
 unfold storeO layCells mp
 cases d.cellsT g with
 | none=>rfl
 | some vs =>
  simp only [Option.bind_some,st_k cs hk]
  split
  ·simp only [Option.map_some,st];rw [List.set_set]
  ·rfl
theorem st_take (A:St) (k:Nat) (cs:List D):(st A k cs).take A.length=st A k cs:=List.take_of_length_le (by simp [st])
theorem Kept_st {A:St} {k:Nat} {cs:List D} (h:D.shutL A.length cs=cs):Kept A (st A k cs)↔True:=iff_true_intro (Kept_set_self (by simp [h]))
theorem Kept_st2 {A:St} {k:Nat} {cs cs':List D} (h:D.shutL A.length cs'=cs'):Kept (st A k cs) (st A k cs')↔True:=by
 rw [← st_st A k cs cs']
 exact Kept_st (by rw [st_length];exact h)
theorem qbs (A L:St) (s:Slot):(A++L)++[s]=A++(L++[s]):=List.append_assoc ..
theorem qbl (s:Slot):([]:St)++[s]=[s]:=rfl
theorem qbf (a s:Slot) (L:St):(a::L)++[s]=a::(L++[s]):=rfl
section
variable {g:Bool} {n off:Nat} {A L:St} {cs:List D} {s0 s1 s2 s3:Slot} {d:D}
theorem ld_at {i:Nat} (h:L[i]?=some (.cells cs)):loadO g n (.ref (A.length+i) off) (A++L)=ofCells g cs off n:=by
 refine load_ref ?_
 rw [List.getElem?_append_right (by omega)]
 simpa using h
theorem ld0:loadO g n (.ref A.length off) (A++(.cells cs::L))=ofCells g cs off n:=ld_at (i:=0) rfl
theorem ld_old {k:Nat} (hk:k<A.length):loadO g n (.ref k off) (A++L)=loadO g n (.ref k off) A:=by
 simp only [loadO]
 rw [List.getElem?_append_left hk]
end
theorem lay1_0 (a:D) (cs:List D) {d:D} (h:d.cellsT false=some [d]):layCells false 1 0 (a::cs) d=some (d::cs):=by simp [layCells,h,splice]
theorem idxStr {s:List UInt8} {i:Nat} {c:UInt8} {t:List UInt8} (h:s.drop i=c::t) (k:IntKind):indexStrO (.str s) (.int k (i:Int))=some (.int .u8 (c.toNat:Int)):=by
 have hl:i<s.length:=by
  have:=congrArg List.length h
  simp at this;omega
 have hc:s[i]?=some c:=by
  have:=congrArg (fun l=>l[0]?) h
  simpa using this
 simp [indexStrO,D.str?,D.int?,hc]
theorem idxStr0 (c:UInt8) (t:List UInt8) (k:IntKind):indexStrO (.str (c::t)) (.int k 0)=some (.int .u8 (c.toNat:Int)):=idxStr (i:=0) rfl k
theorem qbz {α:Type} {s t:List α} {i:Nat} {c:α} (h:s.drop i=c::t):i<s.length:=by
 have:=congrArg List.length h
 simp at this;omega
theorem qbi {α:Type} {s t:List α} {i:Nat} {c:α} (h:s.drop i=c::t):s.drop (i+1)=t:=by
 rw [← List.drop_drop,h];rfl
theorem qb1 {α:Type} {s:List α} {i:Nat} (h:s.drop i=[]):s.length≤i:=by simpa using h
theorem slStr_to {s:List UInt8} {n:Int} {k:IntKind} (h0:0≤n) (h:n≤s.length):sliceStrO (.str s) none (some (.int k n)) none=some (.str (s.take n.toNat)):=by
 simp [sliceStrO,optInt,D.int?,D.str?,sliceStr,h0,h]
theorem slStr_from {s:List UInt8} {n:Int} {k:IntKind} (h0:0≤n) (h:n≤s.length):sliceStrO (.str s) (some (.int k n)) none none=some (.str (s.drop n.toNat)):=by
 simp [sliceStrO,optInt,D.int?,D.str?,sliceStr,h0,h]
theorem slStr_mid {s:List UInt8} {n m:Int} {k k':IntKind} (h0:0≤n) (h1:n≤m) (h:m≤s.length):sliceStrO (.str s) (some (.int k n)) (some (.int k' m)) none=some (.str ((s.take m.toNat).drop n.toNat)):=by
 simp [sliceStrO,optInt,D.int?,D.str?,sliceStr,h0,h1,h]
theorem Run_ext (P:Program) (H:Ext0) {f:FuncId} (hf:Nat.beq f rOff=false) {x:List D→St→ORes} (hx:H.ext f=some x) (args:List D) (A:St):Run P H f args A=x args A:=by
 rw [Run_eq]
 unfold bodyD
 rw [hf,hx]
 rfl
theorem toNat_a1 (n:Nat):((n:Int)+1).toNat=n+1:=by omega
theorem toNat_a2 (n:Nat):((n:Int)+2).toNat=n+2:=by omega
def accD (b:Option Nat) (c n:Nat) (ds:List D):D:=match b with|none=>.sl (.own c 0) n ds|some e=>.sl .full e ds
def accA (b:Option Nat) (A:St) (ds:List D):St:=match b with|none=>A++[.tok ds.length]|some _=>A
def AccOk (b:Option Nat) (n:Nat) (ds:List D):Prop:=b=none∨b=some n∨(b=some 0∧ds=[])
def accNext (b:Option Nat) (n:Nat) (new:List D):Option Nat:=match b with|none=>none|some _=>match new with|[]=>some n|_::_=>none
theorem AccOk.nil (n:Nat):AccOk (some 0) n []:=.inr (.inr ⟨rfl,rfl⟩)
theorem AccOk.full (n:Nat) (ds:List D):AccOk (some n) n ds:=.inr (.inl rfl)
theorem AccOk.own (n:Nat) (ds:List D):AccOk none n ds:=.inl rfl
theorem AccOk.next {b:Option Nat} {n:Nat} {ds:List D} (h:AccOk b n ds) (new:List D):AccOk (accNext b n new) n (ds++new):=by
 cases b with
 | none=>exact .own _ _
 | some e=>cases new with
  | nil=>exact .full _ _
  | cons d new=>exact .own _ _
theorem app_acc {b:Option Nat} {n w:Nat} {A:St} {ds new:List D} {y:D} (hb:AccOk b n ds) (hy:appendNew n y=some new) (hl:ds.length+new.length≤1000000000) (hw:w≤100000) :
  appendO n w (accD b A.length n ds) y (accA b A ds)=some (accD (accNext b n new) A.length n (ds++new),accA (accNext b n new) A (ds++new)):=by
 have hr:roomOk (ds.length+new.length) w=true:=by
  simp only [roomOk,decide_eq_true_eq]
  have:=Nat.mul_le_mul hl hw
  omega
 cases b with
 | none =>
  simp only [accD,accA,accNext]
  rw [append_own (s0:=0) hy (by simp) hr (by omega)]
  simp
 | some e =>
  have hes:esOk .full e n ds=true:=by
   rcases hb with h|h|⟨h,h2⟩
   ·cases h
   ·cases h;simp [esOk]
   ·subst h2;simp [esOk,Own.isOwn]
  have hl':ds.length+new.length≤9223372036854775807:=by omega
  cases new with
  | nil =>
   simp only [accD,accA,accNext,List.append_nil]
   simp only [List.length_nil,Nat.add_zero] at hr hl'
   simp [appendO,appendS,hy,hr,hl',hes]
  | cons d new =>
   simp only [accD,accA,accNext]
   simp only [List.length_cons] at hr hl'
   simp [appendO,appendS,hy,hr,hl',hes]
theorem app_acc1 {b:Option Nat} {n w:Nat} {A:St} {ds:List D} {d:D} (hb:AccOk b n ds) (hl:ds.length+1≤1000000000) (hw:w≤100000) :
  appendO n w (accD b A.length n ds) (.sl .full n [d]) (accA b A ds)=some (accD none A.length n (ds++[d]),accA none A (ds++[d])):=by
 rw [app_acc (new:=[d]) hb (by simp [appendNew,esOk]) hl hw]
 cases b<;>rfl
theorem app_accL {b:Option Nat} {n w:Nat} {A:St} {ds new:List D} (hb:AccOk b n ds) (hl:ds.length+new.length≤1000000000) (hw:w≤100000) :
  appendO n w (accD b A.length n ds) (encL n new) (accA b A ds)=some (accD (accNext b n new) A.length n (ds++new),accA (accNext b n new) A (ds++new)) :=
 app_acc hb (appendNew_encL n new) hl hw
theorem acc_canon {b:Option Nat} {c n:Nat} {ds:List D} (hb:AccOk b n ds) (h:PlainL ds):(accD b c n ds).canon=encL n ds:=by
 cases b with
 | none=>exact canon_sl h _ _
 | some e =>
  rcases hb with hb|hb|⟨hb,h2⟩
  ·cases hb
  ·cases hb;exact canon_sl h _ _
  ·subst h2;rfl
theorem acc_shut {b:Option Nat} {c n m:Nat} {ds:List D} (hb:AccOk b n ds) (h:PlainL ds):((accD b c n ds).shut m).canon=encL n ds:=by
 cases b with
 | none=>unfold accD;simp only [shut_sl,h.shut];exact canon_sl h _ _
 | some e =>
  unfold accD;simp only [shut_sl,h.shut]
  rcases hb with hb|hb|⟨hb,h2⟩
  ·cases hb
  ·cases hb;exact canon_sl h _ _
  ·subst h2;rfl
theorem accA_take (b:Option Nat) (A:St) (ds:List D):(accA b A ds).take A.length=A:=by cases b<;>simp [accA]
theorem accA_Kept (b:Option Nat) (A:St) (ds:List D):Kept A (accA b A ds)↔True:=by cases b<;>simp [accA]
theorem len_acc (b:Option Nat) (c n:Nat) (ds:List D):lenSlO (accD b c n ds)=some (.int .i64 ds.length):=by cases b<;>rfl
theorem lay_str (a:D) (cs:List D) (s:List UInt8):layCells false 1 0 (a::cs) (.str s)=some (.str s::cs):=lay1_0 a cs rfl
theorem qb4 (s:List UInt8):sliceParts 1 false 0 [(0,.str s)]=some [.str s]:=rfl
theorem sparts_str2 (s t:List UInt8):sliceParts 1 false 0 [(0,.str s),(1,.str t)]=some [.str s,.str t]:=rfl
theorem sparts_str3 (s t u:List UInt8):sliceParts 1 false 0 [(0,.str s),(1,.str t),(2,.str u)]=some [.str s,.str t,.str u]:=rfl
theorem ext0 (a:D) (l:List D):extractD (.tup (a::l)) 0=some a:=rfl
theorem extS (a:D) (l:List D) (n:Nat):extractD (.tup (a::l)) (n+1)=extractD (.tup l) n:=rfl
section
variable {g:Bool} {n off i:Nat} {A L:St} {cs:List D} {s:Slot} {d:D}
theorem ld_sh:loadO g n (.ref (A.length+i) off) (A++L)=loadO g n (.ref i off) L:=by
 simp only [loadO]
 rw [List.getElem?_append_right (by omega)]
 simp
theorem qa7:loadO g n (.ref A.length off) (A++L)=loadO g n (.ref 0 off) L:=ld_sh (i:=0)
theorem ldc0:loadO g n (.ref 0 off) (.cells cs::L)=ofCells g cs off n:=by simp [loadO]
theorem ldcS:loadO g n (.ref (i+1) off) (s::L)=loadO g n (.ref i off) L:=by simp [loadO]
theorem sto_sh:storeO g n (.ref (A.length+i) off) d (A++L)=mp (storeO g n (.ref i off) d L) fun L'=>A++L':=by
 unfold storeO mp
 cases d.cellsT g with
 | none=>rfl
 | some vs =>
  have e:(A++L)[A.length+i]?=L[i]?:=by
   rw [List.getElem?_append_right (by omega)]
   simp
  simp only [Option.bind_some,e]
  cases L[i]? with
  | none=>rfl
  | some s =>
   cases s with
   | cells cs =>
    simp only [Option.bind_some]
    split
    ·simp
    ·rfl
   | _=>rfl
theorem sto_sh0:storeO g n (.ref A.length off) d (A++L)=mp (storeO g n (.ref 0 off) d L) fun L'=>A++L':=sto_sh (i:=0)
theorem stoc0:storeO g n (.ref 0 off) d (.cells cs::L)=mp (layCells g n off cs d) fun cs'=>.cells cs'::L:=by
 unfold storeO layCells mp
 cases d.cellsT g with
 | none=>rfl
 | some vs =>
  simp only [Option.bind_some,List.getElem?_cons_zero]
  split
  ·simp
  ·rfl
theorem stocS:storeO g n (.ref (i+1) off) d (s::L)=mp (storeO g n (.ref i off) d L) fun L'=>s::L':=by
 unfold storeO mp
 cases d.cellsT g with
 | none=>rfl
 | some vs =>
  simp only [Option.bind_some,List.getElem?_cons_succ]
  cases L[i]? with
  | none=>rfl
  | some s =>
   cases s with
   | cells cs =>
    simp only [Option.bind_some]
    split
    ·simp
    ·rfl
   | _=>rfl
end
theorem get_sh (A L:St) (i:Nat):(A++L)[A.length+i]?=L[i]?:=by
 rw [List.getElem?_append_right (by omega)]
 simp
theorem Kept_tail {A L L':St} (h1:L.length≤L'.length) (h2:∀ i,i<L.length→L'[i]?=L[i]?∨∃ s,L'[i]?=some s∧s.shut (A++L).length=s):Kept (A++L) (A++L'):=by
 refine ⟨by simp;omega,fun k hk=>?_⟩
 simp only [List.length_append] at hk
 rcases Nat.lt_or_ge k A.length with h|h
 ·left
  rw [List.getElem?_append_left h,List.getElem?_append_left h]
 ·rw [List.getElem?_append_right h,List.getElem?_append_right h]
  exact h2 (k - A.length) (by omega)
theorem take_tail {A L L':St} (h:L.length=L'.length):(A++L').take (A++L).length=A++L':=List.take_of_length_le (by simp;omega)
theorem allCells_str (s:List UInt8) (cs:List D):allCells (.str s::cs)=allCells cs:=rfl
theorem end_ready {A:St} {k:Nat} {f:FuncId} {t:List D} {rf:Code} (h:A[k]?=some (.loop f t rf .ready)):endX k A=some (.normal,A.set k .dead):=by
 unfold endX;rw [h]
theorem lay_ii (a b:D) (cs:List D) (x y:Int):layCells true 2 0 (a::b::cs) (.agg [.int .i64 x,.int .i64 y])=some (.int .i64 x::.int .i64 y::cs):=by
 simp [layCells,D.cellsT,D.agg?,allCells,D.cell?,splice]
theorem sameAd_ref (k o:Nat) (A B:St):sameAd (.ref k o) A B=(A[k]?=B[k]?):=rfl
theorem qb6 {α:Type} {f:α→D} {l:List α} {i:Nat} {x:α} {t:List α} (h:l.drop i=x::t) (n:Nat) (g:Bool) (k:IntKind):indexAddrO n g (encL n (l.map f)) (.int k (i:Int))=mp ((f x).cellsT g) .peek:=by
 have hl:=qbz h
 rw [idx_map hl]
 have:l[i]=x:=by
  have:=congrArg (fun l=>l[0]?) h
  simpa [List.getElem?_eq_getElem hl] using this
 rw [this]
theorem neq_tt (n:Bool):binO .neq 0 n (.bool true) (.bool true)=some (.bool false):=rfl
theorem neq_tf (n:Bool):binO .neq 0 n (.bool true) (.bool false)=some (.bool true):=rfl
theorem neq_ft (n:Bool):binO .neq 0 n (.bool false) (.bool true)=some (.bool true):=rfl
theorem neq_ff (n:Bool):binO .neq 0 n (.bool false) (.bool false)=some (.bool false):=rfl
theorem app_fn (call:CallT) (f:FuncId) (a b xs:List D) (A:St):applyD call (.fn (.func f) a b) xs A=call f (a++xs++b) A:=rfl
theorem minmax_t (k:IntKind) (a b:Int):minMaxD true [.int k a,.int k b]=some (.int k (max a b)):=by simp [minMaxD]
theorem Kept_app2 (A L M:St):Kept (A++L) (A++(L++M))↔True:=by rw [← List.append_assoc];exact qam _ _
theorem take_app2 (A L M:St):(A++(L++M)).take (A.length+L.length)=A++L:=by
 rw [← List.append_assoc,← List.length_append];exact List.take_left ..
theorem Kept_n1 (A L:St) (a:Slot):Kept (A++[a]) (A++(a::L))↔True:=Kept_app2 A [a] L
theorem Kept_n2 (A L:St) (a b:Slot):Kept (A++[a,b]) (A++(a::b::L))↔True:=Kept_app2 A [a,b] L
theorem take_n1 (A L:St) (a:Slot):(A++(a::L)).take (A.length+1)=A++[a]:=take_app2 A [a] L
theorem take_n2 (A L:St) (a b:Slot):(A++(a::b::L)).take (A.length+2)=A++[a,b]:=take_app2 A [a,b] L
theorem take_n3 (A L:St) (a b c:Slot):(A++(a::b::c::L)).take (A.length+3)=A++[a,b,c]:=take_app2 A [a,b,c] L
theorem dT {p:Prop} {dp:Decidable p} (h:p):@decide p dp=true:=decide_eq_true h
theorem dF {p:Prop} {dp:Decidable p} (h:¬ p):@decide p dp=false:=decide_eq_false h
theorem iT {α:Type} {p:Prop} {dp:Decidable p} {x y:α} (h:p):@ite α p dp x y=x:=if_pos h
theorem iF {α:Type} {p:Prop} {dp:Decidable p} {x y:α} (h:¬ p):@ite α p dp x y=y:=if_neg h
end Go.Vm

/- What the tests of bytes and names come to. -/
namespace Go.Vm.Rx
open Go.Proofs P
set_option maxRecDepth 10000
set_option maxHeartbeats 1100000
theorem s93 (c:UInt8) (A:St):f93 (.int .u8 (c.toNat:Int)) A=some (.ret (.bool (digit c)),A):=by
 unfold f93 n93;dsimp only
 refine qbb ?_
 (repeat' first|(with_reducible first|apply qac|apply qa3|apply qaz|apply qai|apply qag (b:=true)|apply qag (b:=false)|apply qaa (b:=true)|apply qaa (b:=false)|apply qbd|apply qbj|(apply tot_leq;all_goals intro hsp)|(apply tot_geq;all_goals intro hsp)))
 all_goals (((try conv=>arg 2;simp only [qaq,qak,qae,qaw,qar,qad,List.take_length,qau,qab,qah]);refine qal ?_);simp [digit];omega)
theorem s77 (c:UInt8) (A:St):f77 (.int .u8 (c.toNat:Int)) A=some (.ret (.bool (digit c)),A):=by
 unfold f77 n77;dsimp only
 refine qbb ?_
 (repeat' first|(with_reducible first|apply qac|apply qa3|apply qaz|apply qai|apply qag (b:=true)|apply qag (b:=false)|apply qaa (b:=true)|apply qaa (b:=false)|apply qbd|apply qbj|(apply tot_leq;all_goals intro hsp)|(apply tot_geq;all_goals intro hsp)))
 all_goals (((try conv=>arg 2;simp only [qaq,qak,qae,qaw,qar,qad,List.take_length,qau,qab,qah]);refine qal ?_);simp [digit];omega)
theorem s92 (c:UInt8) (A:St):f92 (.int .u8 (c.toNat:Int)) A=some (.ret (.bool (letter c)),A):=by
 unfold f92 n92;dsimp only
 refine qbb ?_
 (repeat' first|(with_reducible first|apply qac|apply qa3|apply qaz|apply qa1|apply qai|apply qag (b:=true)|apply qag (b:=false)|apply tot_gbn|apply qaa (b:=true)|apply qaa (b:=false)|apply qan|apply qbd|apply qbj|apply qbq|apply qba|(apply tot_leq_f;omega)|(apply tot_leq;all_goals intro hsp)|(apply tot_geq_t;omega)|(apply tot_geq;all_goals intro hsp)|(apply qbw;omega)|(apply tot_eql;all_goals intro hsp))|((conv=>arg 2;arg 1;simp (disch:=first|omega|assumption) only [qaq,qak,qaj,r93,s93]);(with_reducible first|apply qac|apply qag (b:=true)|apply qag (b:=false)|apply qaa (b:=true)|apply qaa (b:=false)|(apply tot_gb_t;assumption)|(apply tot_gb_f;assumption)|(apply tot_bq_t;assumption)|(apply tot_bq_f;assumption)|(apply tot_gb;all_goals intro hsp))))
 all_goals (((try conv=>arg 2;simp only [qaq,qak,qae,qaw,qar,qad,List.take_length,qau,qab,qah]);refine qal ?_);simp [letter, *]<;>omega)
def low (c:UInt8):Nat:=(c ||| 32).toNat
theorem or32 (n:Nat) (l:Bool) (c:UInt8):binO .or n l (.int .u8 (c.toNat:Int)) (.int .u8 32)=some (.int .u8 ((low c:Nat):Int)):=by
 rw [binO_or]
 revert c
 have h:∀ c:Fin 256,IntKind.wrap .u8 (BitVec.ofInt IntKind.u8.bits (((UInt8.ofNat c.val).toNat:Nat):Int) ||| BitVec.ofInt IntKind.u8.bits 32).toNat=((low (UInt8.ofNat c.val):Nat):Int):=by decide +kernel
 intro c
 have:=h ⟨c.toNat,c.toNat_lt⟩
 simp only [UInt8.ofNat_toNat] at this
 rw [this]
theorem low_letter (c:UInt8):letter c=((decide (97≤low c∧low c≤122)) || digit c || decide (c.toNat=95) || decide (c.toNat=45)):=by
 have h:∀ c:Fin 256,letter (UInt8.ofNat c.val)=((decide (97≤low (UInt8.ofNat c.val)∧low (UInt8.ofNat c.val)≤122)) || digit (UInt8.ofNat c.val) || decide ((UInt8.ofNat c.val).toNat=95) || decide ((UInt8.ofNat c.val).toNat=45)):=by decide +kernel
 have:=h ⟨c.toNat,c.toNat_lt⟩
 simpa only [UInt8.ofNat_toNat] using this
theorem s78 (c:UInt8) (A:St):f78 (.int .u8 (c.toNat:Int)) A=some (.ret (.bool (letter c)),A):=by
 unfold f78 n78;dsimp only
 rw [low_letter]
 refine qbb ?_
 (repeat' first|(with_reducible first|apply qac|apply qa3|apply qaz|apply qa1|apply qai|apply qag (b:=true)|apply qag (b:=false)|apply qaa (b:=true)|apply qaa (b:=false)|apply qbd|apply qbj|apply qbq|apply qba|(apply tot_leq;all_goals intro hsp)|(apply tot_geq;all_goals intro hsp)|(apply tot_eql;all_goals intro hsp))|((conv=>arg 2;arg 1;simp (disch:=first|omega|assumption) only [qaq,qak,qaj,r77,s77,or32]);(with_reducible first|apply qac|apply qag (b:=true)|apply qag (b:=false)|apply qaa (b:=true)|apply qaa (b:=false)|(apply tot_gb_t;assumption)|(apply tot_gb_f;assumption)|(apply tot_bq_t;assumption)|(apply tot_bq_f;assumption)|(apply tot_gb;all_goals intro hsp))))
 all_goals (((try conv=>arg 2;simp only [qaq,qak,qae,qaw,qar,qad,List.take_length,qau,qab,qah]);refine qal ?_);simp [*]<;>omega)
theorem s48_loop (s:Str) (hs:s.length<4611686018427387904) (A:St):∀ (t:Str) (i:Nat),s.drop i=t →
  LP Tryz.prog rxA 48 [0,1,0,1] [A] (Env.mk (sp [(0,.str s),(2,.int .i64 (i:Nat))] 29) []) A=some (.ret (.bool (t.all letter && decide (s≠[]) && decide (s.length≤64) && !digit (s.headD 0) && decide ((s.headD 0).toNat≠45))),A):=by
 intro t
 induction t with
 | nil =>
  intro i ht
  have hl:=qb1 ht
  refine qbb (qbh (q48_0 ..) ?_)
  unfold n48_0;dsimp only
  cases s with
  | nil =>
   (repeat' first|(with_reducible first|apply qac|apply qa3|apply qaz|apply qa1|apply qai|apply qag (b:=false)|apply qaa (b:=false)|apply qan|apply qbj)|((conv=>arg 2;arg 1;simp only [qak,Option.map_some,qax,qb0,List.length_nil,qa6,qa9,qa8]);(with_reducible first|apply qac|apply qag (b:=false)|apply qaa (b:=false)|(apply qa2;omega)|(apply tot_sneq_t;first|assumption|with_reducible rfl))))
   all_goals (((try conv=>arg 2;simp only [qae,qaw,qar,qad,List.take_length,qau,qab,qah]);refine qal ?_);simp)
  | cons c r =>
   simp only [List.length_cons] at hs hl
   (repeat' first|(with_reducible first|apply qac|apply qa3|apply qaz|apply qa1|apply qai|apply qag (b:=true)|apply qag (b:=false)|apply qaa (b:=true)|apply qaa (b:=false)|apply qan|apply qbd|apply qbj|apply tot_if_n|(apply tot_leq;all_goals intro hsp)|(apply tot_neq;all_goals intro hsp)|(apply tot_gb_t;assumption)|(apply tot_gb_f;assumption)|(apply tot_bq_t;assumption)|(apply tot_bq_f;assumption)|(apply tot_gb;all_goals intro hsp))|((conv=>arg 2;arg 1;simp (disch:=first|omega|assumption) only [qaq,qak,Option.map_some,qax,qb0,List.length_cons,qb5,Bool.not_true,Bool.not_false,qa6,qa9,qa8,qaj,idxStr0,r93,s93]);(with_reducible first|apply qac|apply qag (b:=true)|apply qag (b:=false)|apply qaa (b:=true)|apply qaa (b:=false)|apply tot_gb_n|apply tot_bq_n|(apply qa2;omega)|(apply tot_sneq_f;first|assumption|decide|exact List.cons_ne_nil _ _))))
   all_goals (((try conv=>arg 2;simp only [qae,qaw,qar,qad,List.take_length,qau,qab,qah]);refine qal ?_);simp [*]<;>omega)
 | cons c t ih =>
  intro i ht
  have hl:=qbz ht
  refine qbb (qbh (q48_0 ..) ?_)
  unfold n48_0;dsimp only
  have hx:=idxStr ht .i64
  (repeat' first|(with_reducible first|apply qa1|apply tp_gk|apply qai|apply qaa (b:=true)|apply qap|apply qan|apply tot_if_n|apply tot_bq_n|(apply tot_bq;all_goals intro hsp))|((conv=>arg 2;arg 1;simp (disch:=first|omega|assumption) only [Option.map_some,qbe,qa5,qar,qax,qb0,qb5,qa6,qa9,qa8,qaj,r92,s92,hx]);(with_reducible first|apply qac|apply qbg|(apply qas;omega))))
  ·(refine qay ?_;(conv=>lhs;simp only [qao,qbr,shut_strD,List.take_length,List.map_nil,qa6]);have:=ih (i+1) (qbi ht);simp only [List.all_cons, *,Bool.true_and];exact this)
  ·((try conv=>arg 2;simp only [qae,qaw,qar,qad,List.take_length,qau,qab,qah]);refine qal ?_);simp [*]
theorem name_eq (s:Str):(s.all letter && decide (s≠[]) && decide (s.length≤64) && !digit (s.headD 0) && decide ((s.headD 0).toNat≠45))=isName s:=by
 cases s with
 | nil=>rfl
 | cons c r =>
  unfold isName
  have e:decide ((c::r).length≤64)=decide (r.length<64):=by
   simp only [List.length_cons,decide_eq_decide];omega
  rw [e]
  simp only [List.headD_cons]
  cases (c::r).all letter<;>cases decide (r.length<64)<;>cases digit c<;>by_cases h:c.toNat=45<;>simp [h]
theorem s48 (s:Str) (hs:s.length<4611686018427387904) (A:St):f48 (.str s) A=some (.ret (.bool (isName s)),A):=by
 unfold f48 n48;dsimp only
 refine qbb ?_
 skip
 refine qay ?_
 rw [← name_eq]
 exact s48_loop s hs A s 0 rfl
theorem s34_loop (s:Str) (hs:s.length<4611686018427387904) (A:St):∀ (t:Str) (i:Nat),s.drop i=t→i≤s.length →
  LP Tryz.prog rxA 34 [0,1,0,1,1] [A] (Env.mk (sp [(0,.str s),(21,.int .i64 (s.length:Nat)),(0,.int .i64 (i:Nat))] 8) []) A=some (.ret (.bool (t.all letter)),A):=by
 intro t
 induction t with
 | nil =>
  intro i ht _
  have hl:=qb1 ht
  refine qbb (qbh (q34_0 ..) ?_)
  unfold n34_0;dsimp only
  (repeat' first|(with_reducible first|apply qai|apply qaa (b:=false)|apply qan)|((conv=>arg 2;arg 1;simp only [Option.map_some,qax,qa6,qa9,qa8]);(with_reducible first|apply qac|(apply qa2;omega))))
  all_goals (((try conv=>arg 2;simp only [qae,qaw,qar,qad,List.take_length,qau,qab,qah]);refine qal ?_);simp)
 | cons c t ih =>
  intro i ht _
  have hl:=qbz ht
  refine qbb (qbh (q34_0 ..) ?_)
  unfold n34_0;dsimp only
  have hx:=idxStr ht .i64
  (repeat' first|(with_reducible first|apply qa1|apply tp_gk|apply qai|apply qaa (b:=true)|apply qap|apply qan|apply tot_if_n|apply tot_bq_n|(apply tot_bq;all_goals intro hsp))|((conv=>arg 2;arg 1;simp (disch:=first|omega|assumption) only [Option.map_some,qbe,qa5,qar,qax,qb5,qa6,qa9,qa8,qaj,r78,s78,hx]);(with_reducible first|apply qac|apply qbg|(apply qas;omega))))
  ·(refine qay ?_;(conv=>lhs;simp only [qao,qbr,shut_strD,List.take_length,List.map_nil,qa6,qa9,qa8]);have:=ih (i+1) (qbi ht) (by omega);simp only [List.all_cons, *,Bool.true_and];exact this)
  ·((try conv=>arg 2;simp only [qae,qaw,qar,qad,List.take_length,qau,qab,qah]);refine qal ?_);simp [*]
theorem s34 (s:Str) (hs:s.length<4611686018427387904) (A:St):f34 (.str s) A=some (.ret (.bool (isName s)),A):=by
 unfold f34 n34;dsimp only
 cases s with
 | nil =>
  refine qbb ?_
  (repeat' first|(with_reducible first|apply qac|apply qa3|apply qaz|apply qa1|apply qai|apply qag (b:=true)|apply qaa (b:=true)|apply qap|apply qbq|(apply tot_seql_t;first|assumption|with_reducible rfl))|((conv=>arg 2;arg 1;simp only [qaq]);(with_reducible first|apply qag (b:=true)|apply qaa (b:=true))))
  all_goals (((try conv=>arg 2;simp only [qae,qaw,qar,qad,List.take_length,qau,qab,qah]);refine qal ?_);simp [isName])
 | cons c r =>
  have hl:=s34_loop (c::r) hs A (c::r) 0 rfl (by simp)
  have e:isName (c::r)=(decide (r.length<64) && !digit c && decide (c.toNat≠45) && (c::r).all letter):=rfl
  simp only [List.length_cons] at hs
  refine qbb ?_
  (repeat' first|(with_reducible first|apply qac|apply qa3|apply qaz|apply qa1|apply qai|apply qag (b:=true)|apply qag (b:=false)|apply qaa (b:=false)|apply qap|apply qan|apply qbq|apply qba|(apply tot_gtr;all_goals intro hsp)|(apply tot_eql;all_goals intro hsp)|(apply tot_seql_f;first|assumption|decide|exact List.cons_ne_nil _ _))|((conv=>arg 2;arg 1;simp (disch:=first|omega|assumption) only [qaq,qak,qb0,List.length_cons,qaj,idxStr0,r77,s77]);(with_reducible first|apply qac|apply qag (b:=true)|apply qag (b:=false)|apply qaa (b:=true)|apply qaa (b:=false)|(apply tot_gb_t;assumption)|(apply tot_gb_f;assumption)|(apply tot_bq_t;assumption)|(apply tot_bq_f;assumption)|(apply tot_gb;all_goals intro hsp))))
  all_goals (by_cases h1:r.length<64<;>by_cases h2:c.toNat=45)
  all_goals first
   | (exfalso;omega)
   | (((try conv=>arg 2;simp only [qae,qaw,qar,qad,List.take_length,qau,qab,qah]);refine qal ?_);simp [e, *];done)
   | (refine qay ?_
      rw [e]
      simp only [decide_eq_true h1,decide_eq_true h2, *,Bool.true_and,Bool.not_false,ne_eq,not_false_eq_true,decide_true]
      exact hl)
end Go.Vm.Rx
