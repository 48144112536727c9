/- RxS5, RxS6, RxS7 in one text. -/
import Derived.Test.YtagmpieoalkneaaGreatDoorRxS4
set_option linter.all false
/- What the reference's reader of texts comes to. -/
namespace Go.Vm.Rx
open Go.Proofs P
set_option maxRecDepth 10000
set_option maxHeartbeats 1100000
def encRow (l:List Word):D:=encL 3 (l.map encW)
theorem plainRow (l:List Word):Plain (encRow l):=encL_plain (plainWs l) 3
theorem plainRows (l:List (List Word)):PlainL (l.map encRow):=PlainL.map plainRow l
def linesRes (acc:List (List Word)):Except (Int×Int) (List (List Word))→D
 | .ok l=>.tup [encL 1 ((acc++l).map encRow),.int .i64 0,.int .i64 0,.int .i64 0]
 | .error a=>.tup [.sl .sh 0 [],.int .i64 a.1,.int .i64 a.2,.int .i64 30]
theorem lineRes_ok (l:List Word):lineRes [] (.ok l)=.tup [encRow l,.int .i64 (-1)]:=rfl
theorem lineRes_err (a:Nat):lineRes [] (.error a)=.tup [.sl .sh 0 [],.int .i64 (a:Nat)]:=rfl
theorem len_row (l:List Word):lenSlO (encRow l)=some (.int .i64 l.length):=by simp [encRow]
theorem sparts_row (l:List Word):sliceParts 1 false 0 [(0,encRow l)]=some [encRow l]:=rfl
theorem s29_end (s:Str) (hs:s.length≤100000000) (A:St) (acc:List (List Word)) (b:Option Nat) (from_ n:Int) (hb:AccOk b 1 (acc.map encRow)) :
  LP Tryz.prog rxA 29 [0,1,0,1,1,1,1] [A] (Env.mk (sp [(0,.str s),(5,accD b A.length 1 (acc.map encRow)),(0,.int .i64 from_),(0,.int .i64 n),(0,.int .i64 ((s.length+1:Nat):Int))] 47) []) (accA b A (acc.map encRow))=some (.ret (linesRes acc (.ok [])),A):=by
 refine qbb (qbh (q29_0 ..) ?_)
 unfold n29_0;dsimp only
 have hK:=accA_Kept b A (acc.map encRow)
 have hT:=accA_take b A (acc.map encRow)
 have hS:=fun m=>acc_shut (c:=A.length) (m:=m) hb (plainRows acc)
 (repeat' first|(with_reducible first|apply qai|apply qaa (b:=false)|apply qan)|((conv=>arg 2;arg 1;simp only [Option.map_some,qax,qb0,qa6,qa9,qa8]);(with_reducible first|apply qac|(apply tot_leq_f;omega))))
 all_goals (((try conv=>arg 2;simp (disch:=first|omega|assumption) only [qae,qao,shut_tup,qby,qbv,qad,qaj,qb7,qbu,qbm,qab,qah,hK,hT,hS]);refine qal ?_);simp [linesRes])
theorem s29_loop (s:Str) (hs:s.length≤100000000) (A:St):∀ (t:Str) (i from_:Nat) (n:Int) (acc:List (List Word)) (b:Option Nat) (x:Except (Int×Int) (List (List Word))),s.drop i=t→from_≤i→i≤s.length →
  rowsOf n (((s.take i).drop from_++(splitNL t).1)::(splitNL t).2)=some x→AccOk b 1 (acc.map encRow)→acc.length≤i→0≤n→n≤i+1 →
  LP Tryz.prog rxA 29 [0,1,0,1,1,1,1] [A] (Env.mk (sp [(0,.str s),(5,accD b A.length 1 (acc.map encRow)),(0,.int .i64 (from_:Nat)),(0,.int .i64 n),(0,.int .i64 (i:Nat))] 47) []) (accA b A (acc.map encRow))=some (.ret (linesRes acc x),A):=by
 intro t
 induction t with
 | nil =>
  intro i from_ n acc b x ht h1 h2 hx hb ha hn0 hn
  have hl:=qb1 ht
  have hi:i=s.length:=by omega
  subst hi
  simp only [splitNL,List.append_nil,List.take_length] at hx
  refine qbb (qbh (q29_0 ..) ?_)
  unfold n29_0;dsimp only
  have hK:=accA_Kept b A (acc.map encRow)
  have hT:=accA_take b A (acc.map encRow)
  have hS:=fun m=>acc_shut (c:=A.length) (m:=m) hb (plainRows acc)
  unfold rowsOf at hx
  obtain ⟨y,hy⟩:=toks_some n ((s.drop from_).length+1) 0 (s.drop from_) (by omega)
  rw [hy] at hx
  have hsl:(s.drop from_).length≤100000000:=by simp;omega
  have hli:=fun A=>s69 (s.drop from_) hsl n y hy A
  cases y with
  | error a =>
   cases hx
   have hae:=toks_err _ _ _ _ _ hy
   simp only [lineRes_err] at hli
   (repeat' first|(with_reducible first|apply qac|apply qa3|apply qaz|apply qa1|apply qai|apply qag (b:=false)|apply qaa (b:=true)|apply qaa (b:=false)|apply qap|apply qan|apply qbj|(apply tot_geq_t;omega))|((conv=>arg 2;arg 1;simp (disch:=first|omega|assumption) only [qak,Option.map_some,qbe,qa5,qax,qb0,List.take_length,qa6,qa9,qa8,qaj,qat,Int.toNat_natCast,ext0,extS,slStr_mid,r69,hli]);(with_reducible first|apply qac|apply qaa (b:=false)|(apply qa2;omega)|(apply tot_leq_t;omega))))
   all_goals (((try conv=>arg 2;simp (disch:=first|omega|assumption) only [qae,qao,shut_sl,shut_tup,qby,qbv,own_full,qad,qaj,qb7,qbu,qbm,canon_nil,qab,qah,hK,hT]);refine qal ?_);simp [linesRes])
  | ok l =>
   simp only [rowsOf,Option.map_some,Option.some.injEq] at hx
   subst hx
   simp only [lineRes_ok] at hli
   have hap:=app_acc1 (w:=24) (A:=A) (d:=encRow l) hb (by simp;omega) (by omega)
   (repeat' first|(with_reducible first|(apply tot_jn;intro hkk hke)|(apply tot_jk;· assumption)|apply qac|apply qa3|apply qaz|apply qa1|apply qag (b:=false)|apply qaa (b:=true)|apply qaa (b:=false)|apply qap|apply qan|apply qbj|(apply tot_gtr;all_goals intro hsp)|(apply qb8;omega))|((conv=>arg 2;arg 1;simp (disch:=first|omega|assumption) only [qak,qbe,qa5,qb0,List.take_length,qa6,qa9,qa8,qaj,qat,Int.toNat_natCast,ext0,extS,slStr_mid,eg_0,eg_S,r69,hli,len_row,sparts_row,hap]);(with_reducible first|apply qac|apply qaa (b:=false)|(apply qa2;omega)|(apply tot_leq_t;omega))))
   ·have:=s29_end s hs A (acc++[l]) none ((s.length+1:Nat):Int) (n+1) (.own _ _)
    have e:linesRes (acc++[l]) (.ok [])=linesRes acc (putRow l (.ok [])):=by
     cases l with
     | nil=>simp only [List.length_nil] at *;omega
     | cons w l=>simp [linesRes,putRow,Except.map]
    (refine qay ?_;(conv=>lhs;simp only [qa6,qa9,qa8,eg_0,eg_S]);rw [← e];simp only [List.map_append,List.map_cons,List.map_nil] at this;exact this)
   ·have:=s29_end s hs A acc b ((s.length+1:Nat):Int) (n+1) hb
    have e:linesRes acc (.ok [])=linesRes acc (putRow l (.ok [])):=by
     cases l with
     | nil=>simp [linesRes,putRow,Except.map]
     | cons w l=>simp only [List.length_cons] at *;omega
    (refine qay ?_;(conv=>lhs;simp only [qa6,qa9,qa8,eg_0,eg_S]);rw [← e];exact this)
 | cons c t ih =>
  intro i from_ n acc b x ht h1 h2 hx hb ha hn0 hn
  have hl:=qbz ht
  have hi:=idxStr ht .i64
  have htk:(s.take (i+1)).drop from_=(s.take i).drop from_++[c]:=by
   have h0:s.take (i+1)=s.take i++[c]:=by
    rw [List.take_add_one]
    have hc:s[i]?=some c:=by
     have:=congrArg (fun l=>l[0]?) ht
     simpa using this
    rw [hc];rfl
   rw [h0,List.drop_append_of_le_length (by simp;omega)]
  refine qbb (qbh (q29_0 ..) ?_)
  unfold n29_0;dsimp only
  have hK:=accA_Kept b A (acc.map encRow)
  have hT:=accA_take b A (acc.map encRow)
  have hS:=fun m=>acc_shut (c:=A.length) (m:=m) hb (plainRows acc)
  by_cases hc:c.toNat=10
  ·have e1:splitNL (c::t)=([],(splitNL t).1::(splitNL t).2):=by rw [splitNL,if_pos hc]
   rw [e1,List.append_nil] at hx
   unfold rowsOf at hx
   obtain ⟨y,hy⟩:=toks_some n (((s.take i).drop from_).length+1) 0 ((s.take i).drop from_) (by omega)
   rw [hy] at hx
   have hsl:((s.take i).drop from_).length≤100000000:=by simp;omega
   have hli:=fun A=>s69 ((s.take i).drop from_) hsl n y hy A
   cases y with
   | error a =>
    cases hx
    have hae:=toks_err _ _ _ _ _ hy
    simp only [lineRes_err] at hli
    (repeat' first|(with_reducible first|apply qac|apply qa3|apply qaz|apply qa1|apply qai|apply qag (b:=true)|apply qaa (b:=true)|apply qap|apply qan|apply qbd|(apply tot_geq_t;omega)|(apply tot_neq_t;omega))|((conv=>arg 2;arg 1;simp (disch:=first|omega|assumption) only [qaq,Option.map_some,qbe,qa5,qax,qb0,qa6,qa9,qa8,qaj,qat,Int.toNat_natCast,ext0,extS,slStr_mid,hi,r69,hli]);(with_reducible first|apply qac|apply qaa (b:=false)|(apply qas;omega)|(apply tot_leq_t;omega))))
    all_goals (((try conv=>arg 2;simp (disch:=first|omega|assumption) only [qae,qao,shut_sl,shut_tup,qby,qbv,own_full,qad,qaj,qb7,qbu,qbm,canon_nil,qab,qah,hK,hT]);refine qal ?_);simp [linesRes])
   | ok l =>
    simp only [Option.map_eq_some_iff] at hx
    obtain ⟨z,hz,rfl⟩:=hx
    have e2:(s.take (i+1)).drop (i+1)=[]:=List.drop_eq_nil_of_le (by simp;omega)
    have hz':rowsOf (n+1) (((s.take (i+1)).drop (i+1)++(splitNL t).1)::(splitNL t).2)=some z:=by rw [e2];exact hz
    simp only [lineRes_ok] at hli
    have hap:=app_acc1 (w:=24) (A:=A) (d:=encRow l) hb (by simp;omega) (by omega)
    (repeat' first|(with_reducible first|(apply tot_jn;intro hkk hke)|(apply tot_jk;· assumption)|apply qac|apply qa3|apply qaz|apply qa1|apply qag (b:=true)|apply qaa (b:=true)|apply qaa (b:=false)|apply qap|apply qan|apply qbd|(apply tot_gtr;all_goals intro hsp)|(apply qb8;omega)|(apply tot_neq_t;omega))|((conv=>arg 2;arg 1;simp (disch:=first|omega|assumption) only [qaq,qbe,qa5,qb0,qa6,qa9,qa8,qaj,qat,Int.toNat_natCast,ext0,extS,slStr_mid,eg_0,eg_S,hi,r69,hli,len_row,sparts_row,hap]);(with_reducible first|apply qac|apply qaa (b:=false)|(apply qas;omega)|(apply tot_leq_t;omega))))
    ·have:=ih (i+1) (i+1) (n+1) (acc++[l]) none z (qbi ht) (by omega) (by omega) hz' (.own _ _) (by simp;omega) (by omega) (by omega)
     have e:linesRes (acc++[l]) z=linesRes acc (putRow l z):=by
      cases l with
      | nil=>simp only [List.length_nil] at *;omega
      | cons w l=>cases z<;>simp [linesRes,putRow,Except.map]
     (refine qay ?_;(conv=>lhs;simp only [qa6,qa9,qa8,eg_0,eg_S]);rw [← e];simp only [List.map_append,List.map_cons,List.map_nil] at this;exact this)
    ·have:=ih (i+1) (i+1) (n+1) acc b z (qbi ht) (by omega) (by omega) hz' hb (by omega) (by omega) (by omega)
     have e:linesRes acc z=linesRes acc (putRow l z):=by
      cases l with
      | nil=>cases z<;>simp [linesRes,putRow,Except.map]
      | cons w l=>simp only [List.length_cons] at *;omega
     (refine qay ?_;(conv=>lhs;simp only [qa6,qa9,qa8,eg_0,eg_S]);rw [← e];exact this)
  ·have e1:splitNL (c::t)=(c::(splitNL t).1,(splitNL t).2):=by rw [splitNL,if_neg hc]
   rw [e1] at hx
   have hx':rowsOf n (((s.take (i+1)).drop from_++(splitNL t).1)::(splitNL t).2)=some x:=by rw [htk];simpa using hx
   (repeat' first|(with_reducible first|apply qac|apply qa3|apply qaz|apply qag (b:=true)|apply qaa (b:=true)|apply qap|apply qbd|(apply tot_neq_f;omega))|((conv=>arg 2;arg 1;simp (disch:=first|omega|assumption) only [qaq,qbe,qa5,qb0,qa6,qa9,qa8,hi]);(with_reducible first|apply qac|apply qaa (b:=true)|(apply qas;omega)|(apply tot_leq_t;omega))))
   ·have:=ih (i+1) from_ n acc b x (qbi ht) (by omega) (by omega) hx' hb (by omega) (by omega) (by omega)
    (refine qay ?_;(conv=>lhs;simp only [qa6,qa9,qa8]);exact this)
theorem s29 (s:Str) (hs:s.length≤1048576) (x:Except (Int×Int) (List (List Word))) (hx:rowsOf 1 ((splitNL s).1::(splitNL s).2)=some x) (A:St):f29 (.str s) A=some (.ret (linesRes [] x),A):=by
 have hlo:=s29_loop s (by omega) A s 0 0 1 [] (some 0) x rfl (by omega) (by omega) (by simpa using hx) (.nil 1) (by simp) (by omega) (by omega)
 unfold f29 n29;dsimp only
 refine qbb ?_
 (repeat' first|(with_reducible first|apply qaa (b:=false)|apply qan|(apply qbo;omega))|((conv=>arg 2;arg 1;simp only [qb0]);(with_reducible apply qac)))
 (refine qay ?_;(conv=>lhs;simp only []);exact hlo)
end Go.Vm.Rx

/- What the walk over a text's lines comes to. -/
namespace Go.Vm.Rx
open Go Go.Proofs P
set_option maxRecDepth 10000
set_option maxHeartbeats 1100000
theorem s166 (s:Str) (c:UInt8) (hs:s.length<4611686018427387904) (A:St):f166 (.str s) (.str [c]) A=some (.ret (.int .i64 (Lib.indexByte s c)),A):=by
 have hl1:([c]:Str).length=1:=rfl
 unfold f166 n166;dsimp only
 refine qbb ?_
 (repeat' first|(with_reducible first|apply qac|apply qa3|apply qaz|apply qa1|apply qai|apply qag (b:=false)|apply qaa (b:=true)|apply qaa (b:=false)|apply qap|apply qan|apply qba|(apply qbn;omega)|(apply qbw;omega)|(apply tot_seql;all_goals intro hsp))|((conv=>arg 2;arg 1;simp (disch:=first|omega|assumption) only [qak,qb0,qaj,qat,idxStr0,r167,s167,hl1]);(with_reducible first|apply qac|apply qaa (b:=true)|apply qaa (b:=false))))
 ·((try conv=>arg 2;simp only [qae,qao,qar,qad,List.take_length,qaj,qab,qah]);refine qal ?_)
  have:s=[c]:=by first|assumption|(exact Eq.symm (by assumption))
  subst this
  simp [Lib.indexByte]
 ·((try conv=>arg 2;simp only [qae,qao,qar,qad,List.take_length,qaj,qab,qah]);refine qal ?_)
  rfl
theorem s137 (s:Str) (c:UInt8) (hs:s.length<4611686018427387904) (A:St):f137 (.str s) (.str [c]) A=some (.ret (.int .i64 (Lib.indexByte s c)),A):=by
 unfold f137 n137;dsimp only
 refine qbb ?_
 (repeat' first|(with_reducible first|apply qa1|apply qai)|((conv=>arg 2;arg 1;simp (disch:=first|omega|assumption) only [qat,r166,s166]);(with_reducible apply qac)))
 all_goals (((try conv=>arg 2;simp only [qae,qao,qar,qad,List.take_length,qaj,qab,qah]);refine qal ?_);rfl)
theorem idx_none (t:Str) (h:Lib.indexByte t 10<0):splitNL t=(t,[]):=by
 induction t with
 | nil=>rfl
 | cons c t ih =>
  have:=idx_low t 10
  unfold Lib.indexByte at h
  split at h
  ·omega
  ·rename_i hc
   have hc':¬ c=10:=by simpa using hc
   have hc2:¬ c.toNat=10:=fun e=>hc' (UInt8.toNat_inj.1 e)
   split at h
   ·rename_i h1
    have h1':Lib.indexByte t 10=-1:=by simpa using h1
    rw [splitNL,if_neg hc2,ih (by omega)]
   ·omega
theorem idx_some (t:Str):∀ i:Nat,Lib.indexByte t 10=i→i<t.length∧splitNL t=(t.take i,(splitNL (t.drop (i+1))).1::(splitNL (t.drop (i+1))).2):=by
 induction t with
 | nil=>intro i h;simp [Lib.indexByte] at h
 | cons c t ih =>
  intro i h
  have:=idx_low t 10
  unfold Lib.indexByte at h
  split at h
  ·rename_i hc
   have hc':c=10:=by simpa using hc
   have:i=0:=by omega
   subst this;subst hc'
   exact ⟨by simp,by rw [splitNL,if_pos (by decide)];rfl⟩
  ·rename_i hc
   have hc':¬ c=10:=by simpa using hc
   have hc2:¬ c.toNat=10:=fun e=>hc' (UInt8.toNat_inj.1 e)
   split at h
   ·rename_i h1
    have h1':Lib.indexByte t 10=-1:=by simpa using h1
    omega
   ·rename_i h1
    have h1':¬ Lib.indexByte t 10=-1:=by simpa using h1
    obtain ⟨j,rfl⟩:∃ j:Nat,i=j+1:=⟨i - 1,by omega⟩
    obtain ⟨h2,h3⟩:=ih j (by omega)
    refine ⟨by simp;omega, ?_⟩
    rw [splitNL,if_neg hc2,h3]
    rfl
noncomputable def TL (a:Nat) (n:Int) (rows:List (List Word)) (s:Str) (rs:RSt):St :=
 [.cells [.sl .full 0 []],.cells [.int .i64 0],.cells [.int .i64 0],.cells [.int .i64 0],.cells [.int .i64 n],.cells [.sl (.own (a+6) 0) 1 (rows.map encRow)],.tok rows.length,
  .cells [.str s],.cells [.str [10]],.cells [.int .i64 0],.dfb,.loop 23 (e23_8 (.ref (a+4) 0) (.ref (a+5) 0)) (cAt Tryz.prog 23 [0,1,0,1,1,1,1,1]) rs]
theorem TL_length (a:Nat) (n:Int) (rows:List (List Word)) (s:Str) (rs:RSt):(TL a n rows s rs).length=12:=rfl
theorem TL_kept {A:St} {n n':Int} {rows rows':List (List Word)} {s s':Str} {rs rs':RSt}:Kept (A++TL A.length n rows s rs) (A++TL A.length n' rows' s' rs')↔True:=by
 refine iff_true_intro (Kept_tail (Nat.le_refl _) fun i hi=>?_)
 rw [TL_length] at hi
 match i,hi with
 | 0,_=>exact .inl rfl
 | 1,_=>exact .inl rfl
 | 2,_=>exact .inl rfl
 | 3,_=>exact .inl rfl
 | 4,_=>exact .inr ⟨_,rfl,by simp⟩
 | 5,_=>exact .inr ⟨_,rfl,by
   simp only [cells_shut,qbv,shut_sl,qby,(plainRows rows').shut]
   rw [own_own]
   simp [TL_length]⟩
 | 6,_=>exact .inr ⟨_,rfl,rfl⟩
 | 7,_=>exact .inr ⟨_,rfl,by simp⟩
 | 8,_=>exact .inl rfl
 | 9,_=>exact .inl rfl
 | 10,_=>exact .inl rfl
 | 11,_=>exact .inr ⟨_,rfl,by
   rw [loop_shut]
   unfold e23_8
   simp only [sp,anys,qbv,qby,qbr]
   rw [shut_ref,shut_ref]<;>simp [TL_length]⟩
theorem TL_take {A:St} {n n':Int} {rows rows':List (List Word)} {s s':Str} {rs rs':RSt}:(A++TL A.length n rows s rs).take (A++TL A.length n' rows' s' rs').length=A++TL A.length n rows s rs:=take_tail rfl
theorem TL_ready {A:St} {n:Int} {rows:List (List Word)} {s:Str} {rs:RSt}:(A++TL A.length n rows s rs)[A.length+11]?=some (.loop 23 (e23_8 (.ref (A.length+4) 0) (.ref (A.length+5) 0)) (cAt Tryz.prog 23 [0,1,0,1,1,1,1,1]) rs):=get_sh _ _ _
noncomputable def T (A:St) (n:Int) (rows:List (List Word)) (s:Str) (rs:RSt):St:=A++TL A.length n rows s rs
def walkOut (A:St) (rows:List (List Word)) (x:Except (Int×Int) (List (List Word))) (r:Res×St):Prop :=
 match x with
 | .ok l=>∃ n' s',r=(.ret (.tup []),T A n' (rows++l) s' .ready)
 | .error a=>∃ n' rows' s',r=(.pan (.iface 101 (.agg [.int .i64 a.1,.int .i64 a.2])),T A n' rows' s' .busy)
def addRow (rows:List (List Word)) (l:List Word):List (List Word):=match l with|[]=>rows|_::_=>rows++[l]
def roundOut (A:St) (n:Int) (rows:List (List Word)) (s u:Str) (r:Res×St):Prop :=
 match toks (n+1) (u.length+1) 0 u with
 | none=>False
 | some (.ok l)=>r=(.ret (.bool true),T A (n+1) (addRow rows l) s .ready)
 | some (.error a)=>r=(.pan (.iface 101 (.agg [.int .i64 (n+1),.int .i64 ((a:Int)+1)])),T A (n+1) rows s .busy)
theorem T_ld7 {A:St} {n:Int} {rows:List (List Word)} {s:Str} {rs:RSt}:loadO false 1 (.ref (A.length+7) 0) (T A n rows s rs)=some (.str s):=by unfold T;rw [ld_sh];rfl
theorem T_ld8 {A:St} {n:Int} {rows:List (List Word)} {s:Str} {rs:RSt}:loadO false 1 (.ref (A.length+8) 0) (T A n rows s rs)=some (.str [10]):=by unfold T;rw [ld_sh];rfl
theorem T_ld9 {A:St} {n:Int} {rows:List (List Word)} {s:Str} {rs:RSt}:loadO false 1 (.ref (A.length+9) 0) (T A n rows s rs)=some (.int .i64 0):=by unfold T;rw [ld_sh];rfl
theorem T_st7 {A:St} {n:Int} {rows:List (List Word)} {s s':Str} {rs:RSt}:storeO false 1 (.ref (A.length+7) 0) (.str s') (T A n rows s rs)=some (T A n rows s' rs):=by unfold T;rw [sto_sh];rfl
theorem s135_loop (hround:∀ (A:St) (n:Int) (rows:List (List Word)) (s u:Str),u.length≤100000000→rows.length≤100000000→0≤n→n≤100000000 →
   Tot (roundOut A n rows s u) (Run Tryz.prog rxA rOff [.tup [.yld true (A.length+11)],.tup [.str u]] (T A n rows s .ready))) (A:St) (s0:Str):∀ (m:Nat) (t:Str) (n:Int) (rows:List (List Word)) (x:Except (Int×Int) (List (List Word))),t.length<m→t.length+rows.length≤100000000→0≤n→n+t.length≤100000000 →
  rowsOf (n+1) ((splitNL t).1::(splitNL t).2)=some x →
  Tot (walkOut A rows x) (LP Tryz.prog rxA 135 [0,0,1] [(T A 0 [] s0 .ready)] (Env.mk (sp [(0,.yld false (A.length+11)),(0,.ref (A.length+8) 0),(0,.ref (A.length+7) 0),(0,.ref (A.length+9) 0)] 48) []) (T A n rows t .ready)):=by
 intro m
 induction m with
 | zero=>intro t n rows x h;omega
 | succ m ih =>
  intro t n rows x hm hb hn0 hn hx
  refine qbh (q135_1 ..) ?_
  unfold n135_1;dsimp only
  have hy:∀ u,applyD (Run Tryz.prog rxA) (.yld false (A.length+11)) [.str u] (T A n rows t .ready)=Run Tryz.prog rxA rOff [.tup [.yld true (A.length+11)],.tup [.str u]] (T A n rows t .ready):=fun u=>yld_call _ _ _ _ TL_ready
  have hlen1:lenStrO (.str [10])=some (.int .i64 1):=rfl
  have hK:∀ n n' rows rows' s s' rs rs',Kept (T A n rows s rs) (T A n' rows' s' rs')↔True:=fun _ _ _ _ _ _ _ _=>TL_kept
  have hT:∀ n n' rows rows' s s' rs rs',(T A n rows s rs).take (T A n' rows' s' rs').length=T A n rows s rs:=fun _ _ _ _ _ _ _ _=>TL_take
  have hTl:∀ n rows s rs,(T A n rows s rs).length=A.length+12:=fun _ _ _ _=>by unfold T;rw [List.length_append];rfl
  have hsh:∀ n rows s rs i,i<12→(D.ref (A.length+i) 0).shut (T A n rows s rs).length=.ref (A.length+i) 0:=fun n rows s rs i hi=>shut_ref _ (by rw [hTl];omega)
  have hshy:∀ n rows s rs,(D.yld false (A.length+11)).shut (T A n rows s rs).length=.yld false (A.length+11):=fun n rows s rs=>by simp [D.shut,hTl]
  by_cases hneg:Lib.indexByte t 10<0
  ·have hs:=idx_none t hneg
   rw [hs] at hx
   have hr:=hround A n rows t t (by omega) (by omega) hn0 (by omega)
   (repeat' first|(with_reducible first|apply qa3|apply qa1|apply qaa (b:=true)|apply qap|(apply qas;omega))|((conv=>arg 2;arg 1;simp (disch:=first|omega|assumption) only [qa6,qa8,qat,T_ld7,T_ld8,r137,s137]);(with_reducible apply qac)))
   conv=>arg 2;arg 1;simp (disch:=first|omega|assumption) only [qa6,hy]
   refine tot_bn hr fun r hr=>?_
   unfold roundOut at hr
   unfold rowsOf at hx
   cases htk:toks (n+1) (t.length+1) 0 t with
   | none=>rw [htk] at hr;exact hr.elim
   | some y =>
    rw [htk] at hr hx
    cases y with
    | error a =>
     cases hx
     subst hr
     (repeat' first|(with_reducible first|apply tp_pan|apply qai)|((conv=>arg 2;arg 1;simp only [leaves_pan]);(with_reducible apply qac)))
     ((try conv=>arg 2;simp (disch:=first|omega|assumption) only [qae,qao,shut_agg,shut_iface,qby,qbv,Res_shut_pan,qaj,canon_agg,canon_iface,qbu,qbm,Res_canon_pan,qah,hK,hT]);refine qal ?_)
     exact ⟨_,_,_,rfl⟩
    | ok l =>
     simp only [rowsOf,Option.map_some,Option.some.injEq] at hx
     subst hx
     subst hr
     (repeat' first|(with_reducible first|apply qa1|apply qai)|((conv=>arg 2;arg 1;simp only [Option.map_some,qax]);(with_reducible apply qac)))
     ((try conv=>arg 2;simp (disch:=first|omega|assumption) only [qae,shut_tup,qby,qad,qb7,qbu,qab,qah,hK,hT]);refine qal ?_)
     refine ⟨n+1,t, ?_⟩
     cases l<;>simp [putRow,Except.map,addRow]
  ·obtain ⟨i,hi⟩:∃ i:Nat,Lib.indexByte t 10=i:=⟨(Lib.indexByte t 10).toNat,by omega⟩
   obtain ⟨hil,hs⟩:=idx_some t i hi
   rw [hs] at hx
   have hr:=hround A n rows t (t.take i) (by simp;omega) (by omega) hn0 (by omega)
   have hm1:((i:Int)+0).toNat=i:=by omega
   (repeat' first|(with_reducible first|apply qa3|apply qa1|apply qaa (b:=false)|apply qan|(apply qa2;omega))|((conv=>arg 2;arg 1;simp (disch:=first|omega|assumption) only [qbe,qa5,qa6,qa8,qat,Int.toNat_natCast,slStr_to,T_ld7,T_ld8,T_ld9,r137,s137,hi,Int.add_zero]);(with_reducible apply qac)))
   conv=>arg 2;arg 1;simp (disch:=first|omega|assumption) only [qa6,hy]
   refine tot_bn hr fun r hr=>?_
   unfold roundOut at hr
   unfold rowsOf at hx
   cases htk:toks (n+1) ((t.take i).length+1) 0 (t.take i) with
   | none=>rw [htk] at hr;exact hr.elim
   | some y =>
    rw [htk] at hr hx
    cases y with
    | error a =>
     cases hx
     subst hr
     (repeat' first|(with_reducible first|apply tp_pan|apply qai)|((conv=>arg 2;arg 1;simp only [leaves_pan]);(with_reducible apply qac)))
     ((try conv=>arg 2;simp (disch:=first|omega|assumption) only [qae,qao,shut_agg,shut_iface,qby,qbv,Res_shut_pan,qaj,canon_agg,canon_iface,qbu,qbm,Res_canon_pan,qah,hK,hT]);refine qal ?_)
     exact ⟨_,_,_,rfl⟩
    | ok l =>
     simp only [Option.map_eq_some_iff] at hx
     obtain ⟨z,hz,rfl⟩:=hx
     subst hr
     (repeat' first|(with_reducible first|apply qa3|apply qa1|apply tp_gk|apply qaa (b:=false)|apply qan)|((conv=>arg 2;arg 1;simp (disch:=first|omega|assumption) only [qbe,qa5,qb5,Bool.not_true,qa6,qa8,toNat_a1,slStr_from,T_ld7,T_ld8,T_st7,hlen1,hK]);(with_reducible first|apply qac|apply qbg)))
     have hs7:=hsh n rows t .ready 7 (by omega)
     have hs8:=hsh n rows t .ready 8 (by omega)
     have hs9:=hsh n rows t .ready 9 (by omega)
     conv=>arg 2;simp (disch:=first|omega|assumption) only [qbr,List.map_nil,qa6,qa8,hT,hshy,hs7,hs8,hs9]
     have hih:=ih (t.drop (i+1)) (n+1) (addRow rows l) z (by simp;omega) (by cases l<;>simp [addRow]<;>omega) (by omega) (by simp;omega) hz
     refine Tot.mono hih fun r hr=>?_
     cases z with
     | ok ls =>
      obtain ⟨n',s',hr⟩:=hr
      refine ⟨n',s', ?_⟩
      rw [hr]
      cases l<;>simp [putRow,Except.map,addRow]
     | error a=>exact hr
end Go.Vm.Rx

/- What one round of the walk over a text's lines comes to. -/
namespace Go.Vm.Rx
open Go Go.Proofs P
set_option maxRecDepth 10000
set_option maxHeartbeats 1100000
theorem TL_fix (a:Nat) (n:Int) (rows:List (List Word)) (s:Str) (rs:RSt):∀ (i:Nat) (x:Slot),(TL a n rows s rs)[i]?=some x→x.shut (a+12)=x:=by
 intro i x h
 match i with
 | 0=>cases h;simp
 | 1=>cases h;simp
 | 2=>cases h;simp
 | 3=>cases h;simp
 | 4=>cases h;simp
 | 5 =>
  cases h
  simp only [cells_shut,qbv,shut_sl,qby,(plainRows rows).shut]
  rw [own_own]
  omega
 | 6=>cases h;rfl
 | 7=>cases h;simp
 | 8=>cases h;simp
 | 9=>cases h;simp
 | 10=>cases h;rfl
 | 11 =>
  cases h
  rw [loop_shut]
  unfold e23_8
  simp only [sp,anys,qbv,qby,qbr]
  rw [shut_ref,shut_ref]<;>omega
 | i+12=>simp [TL] at h
theorem close_T {A L M:St} {n n':Int} {rows rows':List (List Word)} {s s':Str} {rs rs':RSt} (hL:L.length=12)
  (h:∀ i,i<12→∃ x,L[i]?=some x∧(TL A.length n' rows' s' rs')[i]?=some (x.shut (A.length+12))):closeSt (T A n rows s rs) ((A++L)++M)=T A n' rows' s' rs':=by
 have hlT:∀ n rows s rs,(T A n rows s rs).length=A.length+12:=fun _ _ _ _=>by unfold T;rw [List.length_append];rfl
 apply List.ext_getElem?
 intro k
 unfold closeSt
 rw [List.getElem?_map]
 rcases Nat.lt_or_ge k (A.length+12) with hk|hk
 ·have hr:(List.range (T A n rows s rs).length)[k]?=some k:=by rw [hlT,List.getElem?_range hk]
  rw [hr,Option.map_some]
  rcases Nat.lt_or_ge k A.length with h1|h1
  ·have e1:(A++L++M)[k]?=A[k]?:=by rw [List.append_assoc,List.getElem?_append_left h1]
   have e2:∀ n rows s rs,(T A n rows s rs)[k]?=A[k]?:=fun _ _ _ _=>by unfold T;rw [List.getElem?_append_left h1]
   rw [if_pos (by rw [e1,e2])]
   rw [e2,List.getD_eq_getElem?_getD,e2,List.getElem?_eq_getElem h1]
   rfl
  ·obtain ⟨i,rfl⟩:∃ i,k=A.length+i:=⟨k - A.length,by omega⟩
   obtain ⟨x,hx1,hx2⟩:=h i (by omega)
   have e1:(A++L++M)[A.length+i]?=some x:=by
    rw [List.append_assoc,get_sh,List.getElem?_append_left (by omega),hx1]
   have e2:(T A n' rows' s' rs')[A.length+i]?=some (x.shut (A.length+12)):=by unfold T;rw [get_sh];exact hx2
   have e3:(T A n rows s rs)[A.length+i]?=(TL A.length n rows s rs)[i]?:=by unfold T;rw [get_sh]
   rw [e2]
   by_cases he:(A++L++M)[A.length+i]?=(T A n rows s rs)[A.length+i]?
   ·rw [if_pos he,List.getD_eq_getElem?_getD,← he,e1]
    simp only [Option.getD_some,Option.some.injEq]
    exact (TL_fix A.length n rows s rs i x (by rw [← e3,← he,e1])).symm
   ·rw [if_neg he,List.getD_eq_getElem?_getD,e1,hlT]
    rfl
 ·rw [List.getElem?_eq_none (by simp [hlT];omega),List.getElem?_eq_none (by rw [hlT];omega)]
  rfl
theorem T_ld4 {A:St} {n:Int} {rows:List (List Word)} {s:Str} {rs:RSt}:loadO false 1 (.ref (A.length+4) 0) (T A n rows s rs)=some (.int .i64 n):=by unfold T;rw [ld_sh];rfl
theorem T_st4 {A:St} {n n':Int} {rows:List (List Word)} {s:Str} {rs:RSt}:storeO false 1 (.ref (A.length+4) 0) (.int .i64 n') (T A n rows s rs)=some (T A n' rows s rs):=by unfold T;rw [sto_sh];rfl
theorem T_busy {A:St} {n:Int} {rows:List (List Word)} {s:Str}:recBusy (A.length+11) (T A n rows s .ready)=some (T A n rows s .busy):=by
 unfold recBusy
 have:=TL_ready (A:=A) (n:=n) (rows:=rows) (s:=s) (rs:=.ready)
 unfold T
 rw [this]
 simp [TL]
theorem T_ready {A:St} {n:Int} {rows:List (List Word)} {s:Str} {rs:RSt}:(T A n rows s rs)[A.length+11]?=some (.loop 23 (e23_8 (.ref (A.length+4) 0) (.ref (A.length+5) 0)) (cAt Tryz.prog 23 [0,1,0,1,1,1,1,1]) rs):=TL_ready
theorem T_length (A:St) (n:Int) (rows:List (List Word)) (s:Str) (rs:RSt):(T A n rows s rs).length=A.length+12:=by unfold T;rw [List.length_append];rfl
theorem tok_ref (B:St) (x y:D) (u:D):tokO [(3,3)] (.ref B.length 0) (B++[.cells [x,y,u,.sl .full 0 []]])=some (.ref B.length 0,B++[.cells [x,y,u,.sl (.own (B.length+1) 0) 3 []],.tok 0]):=by
 unfold tokO tokD
 simp [tokCells,tokCell,show Nat.ble 1000000 3=false from rfl]
theorem stR_new (B:St) (s0 s1:Slot) (line at_:Int) (u:Str) (ws:List Word):stR (B++[s0,s1]) B.length (B.length+1) line at_ u ws=B++[.cells [.int .i64 line,.int .i64 at_,.str u,.sl (.own (B.length+1) 0) 3 (ws.map encW)],.tok ws.length]:=by
 unfold stR st
 simp
theorem shutL_append (n:Nat) (a b:List D):D.shutL n (a++b)=D.shutL n a++D.shutL n b:=by simp [shutL_eq]
theorem set_sh (A L:St) (i:Nat) (s:Slot):(A++L).set (A.length+i) s=A++L.set i s:=by
 rw [List.set_append_right _ _ (by omega)]
 simp
noncomputable def TL2 (a:Nat) (n:Int) (e:D) (m:Nat) (s:Str) (rs:RSt):St :=
 [.cells [.sl .full 0 []],.cells [.int .i64 0],.cells [.int .i64 0],.cells [.int .i64 0],.cells [.int .i64 n],.cells [e],.tok m,
  .cells [.str s],.cells [.str [10]],.cells [.int .i64 0],.dfb,.loop 23 (e23_8 (.ref (a+4) 0) (.ref (a+5) 0)) (cAt Tryz.prog 23 [0,1,0,1,1,1,1,1]) rs]
theorem T_eq2 (A:St) (n:Int) (rows:List (List Word)) (s:Str) (rs:RSt):T A n rows s rs=A++TL2 A.length n (.sl (.own (A.length+6) 0) 1 (rows.map encRow)) rows.length s rs:=rfl
section
variable {A M:St} {n:Int} {e d:D} {m m':Nat} {s:Str} {rs:RSt}
theorem T2_ld5:loadO false 1 (.ref (A.length+5) 0) (A++TL2 A.length n e m s rs++M)=some e:=by
 rw [List.append_assoc,ld_sh];rfl
theorem T2_set6:(A++TL2 A.length n e m s rs++M).set (A.length+6) (.tok m')=A++TL2 A.length n e m' s rs++M:=by
 rw [List.append_assoc,set_sh,List.append_assoc];rfl
theorem T2_get6:(A++TL2 A.length n e m s rs++M)[A.length+6]?=some (.tok m):=by
 rw [List.append_assoc,get_sh];rfl
theorem T2_st5 (o:Own) (k:Nat) (ds:List D):storeO false 1 (.ref (A.length+5) 0) (.sl o k ds) (A++TL2 A.length n e m s rs++M)=some (A++TL2 A.length n (.sl o k ds) m s rs++M):=by
 rw [List.append_assoc,sto_sh,List.append_assoc];rfl
theorem T2_rec:recSet (A.length+11) .ready (A++TL2 A.length n e m s .busy++M)=some (A++TL2 A.length n e m s .ready++M):=by
 have h:(A++TL2 A.length n e m s .busy++M)[A.length+11]?=some (.loop 23 (e23_8 (.ref (A.length+4) 0) (.ref (A.length+5) 0)) (cAt Tryz.prog 23 [0,1,0,1,1,1,1,1]) .busy):=by
  rw [List.append_assoc,get_sh];rfl
 unfold recSet
 rw [h]
 simp only
 rw [List.append_assoc,set_sh,List.append_assoc];rfl
theorem T2_app {rows:List (List Word)} (x:D) (hr:rows.length≤100000000):appendO 1 24 (.sl (.own (A.length+6) 0) 1 (rows.map encRow)) (.sl .full 1 [x]) (A++TL2 A.length n e rows.length s rs++M) =
  some (.sl (.own (A.length+6) 0) 1 (rows.map encRow++[x]),A++TL2 A.length n e (rows.length+1) s rs++M):=by
 rw [append_own (s0:=0) (new:=[x]) (by simp [appendNew,esOk]) (by rw [T2_get6];simp) (by simp [roomOk];omega) (by simp;omega),T2_set6]
 simp
end
theorem round_ok (A:St) (n:Int) (rows:List (List Word)) (s u:Str) (hu:u.length≤100000000) (hr:rows.length≤100000000) (hn0:0≤n) (hn:n≤100000000) :
  Tot (roundOut A n rows s u) (Run Tryz.prog rxA rOff [.tup [.yld true (A.length+11)],.tup [.str u]] (T A n rows s .ready)):=by
 rw [rg23_8 (A.length+11) _ (.ref (A.length+4) 0) (.ref (A.length+5) 0) _ T_ready]
 unfold g23_8 ng23_8 e23_8;dsimp only
 obtain ⟨x,hx⟩:=toks_some (n+1) (u.length+1) 0 u (by omega)
 have hread:=s61 u hu (n+1) (T A (n+1) rows s .busy++[.cells [.int .i64 (n+1),.int .i64 0,.str u,.sl (.own ((T A (n+1) rows s .busy).length+1) 0) 3 []],.tok 0]) (T A (n+1) rows s .busy).length ((T A (n+1) rows s .busy).length+1) (by simp) (by simp) (by omega) x hx
 rw [stR_new] at hread
 have h40:(40 == 40)=true:=rfl
 (repeat' first|(with_reducible first|apply qac|apply tp_bnbn|apply qa3)|((conv=>arg 2;arg 1;simp (disch:=first|omega|assumption) only [Option.map_some,qbe,qa5,box_agg2,allCells_nil,allCells_int,allCells_sl,cond_true,lay_int,lay_s,qa6,qa9,lay_str,allCells_str,lay_ii,T_ld4,T_st4,T_busy,tok_ref]);(with_reducible apply qac)))
 conv=>arg 2;arg 1;simp (disch:=first|omega|assumption) only [canon_ref,r61]
 refine tot_bn hread fun r hr=>?_
 unfold roundOut
 rw [hx]
 cases x with
 | error a =>
  obtain ⟨ws',rfl⟩:=hr
  rw [stR_new]
  have hcl:closeSt (T A n rows s .ready) (T A (n+1) rows s .busy++[.cells [.int .i64 (n+1),.int .i64 (a:Nat),.str u,.sl (.own ((T A (n+1) rows s .busy).length+1) 0) 3 (ws'.map encW)],.tok ws'.length])=T A (n+1) rows s .busy:=by
   refine close_T (L:=TL A.length (n+1) rows s .busy) rfl fun i hi=>?_
   have hlt:i<(TL A.length (n+1) rows s .busy).length:=hi
   exact ⟨_,List.getElem?_eq_getElem hlt,by rw [TL_fix _ _ _ _ _ i _ (List.getElem?_eq_getElem hlt)];exact List.getElem?_eq_getElem hlt⟩
  (repeat' first|(with_reducible apply tp_pan)|((conv=>arg 2;arg 1;simp (disch:=first|omega|assumption) only [mL_cl,hcl]);(with_reducible apply qac)))
  ((try conv=>arg 2;simp only [qao,shut_agg,shut_iface,qby,qbv]);refine qal ?_)
  rfl
 | ok l =>
  obtain ⟨j,rfl⟩:=hr
  rw [stR_new,List.nil_append]
  generalize hM:([Slot.cells [D.int .i64 (n+1),D.int .i64 j,D.str u,D.sl (.own ((T A (n+1) rows s .busy).length+1) 0) 3 (l.map encW)],Slot.tok l.length]:St)=M
  have hld3:loadO false 1 (.ref (T A (n+1) rows s .busy).length 3) (T A (n+1) rows s .busy++M)=some (.sl (.own ((T A (n+1) rows s .busy).length+1) 0) 3 (l.map encW)):=by
   subst hM;rw [qa7];rfl
  have hsp1:∀ o ds,sliceParts 1 false 0 [(0,D.sl o 3 ds)]=some [.sl o 3 ds]:=fun _ _=>rfl
  have hap:=fun x=>T2_app (A:=A) (M:=M) (n:=n+1) (e:=.sl (.own (A.length+6) 0) 1 (rows.map encRow)) (s:=s) (rs:=.busy) (rows:=rows) x hr
  have hlen:(T A (n+1) rows s .busy).length=A.length+12:=T_length _ _ _ _ _
  have hcl:∀ (L:St),L.length=12→(∀ i,i<12→∃ x,L[i]?=some x∧(TL A.length (n+1) (addRow rows l) s .ready)[i]?=some (x.shut (A.length+12)))→closeSt (T A n rows s .ready) ((A++L)++M)=T A (n+1) (addRow rows l) s .ready:=fun L h1 h2=>close_T h1 h2
  rw [hlen] at hld3
  simp only [T_eq2 A (n+1)] at hld3 hap hcl ⊢
  have hl2:∀ a n e m s rs,(TL2 a n e m s rs).length=12:=fun _ _ _ _ _ _=>rfl
  (repeat' first|(with_reducible first|(apply tot_jn;intro hkk hke)|(apply tot_jk;· assumption)|apply qa3|apply qa1|apply qaa (b:=true)|apply qaa (b:=false)|apply qap|apply qan|(apply tot_gtr;all_goals intro hsp))|((conv=>arg 2;arg 1;simp (disch:=first|omega|assumption) only [nilCheck_ref,qaf,lenSl_sl,Nat.zero_add,List.length_append,qa6,qa9,qa8,List.length_map,hld3,T2_ld5,hsp1,hap,T2_st5,T2_rec,hl2]);(with_reducible apply qac)))
  ·have he:encRow l=.sl .sh 3 (l.map encW):=by
    cases l with
    | nil=>simp only [List.length_nil] at *;omega
    | cons w l=>rfl
   have ha:addRow rows l=rows++[l]:=by
    cases l with
    | nil=>simp only [List.length_nil] at *;omega
    | cons w l=>rfl
   have hcl2:=hcl (TL2 A.length (n+1) (.sl (.own (A.length+6) 0) 1 (rows.map encRow++[.sl (.own (A.length+12+1) 0) 3 (l.map encW)])) (rows.length+1) s .ready) rfl (fun i hi=>by
    have hfix:=TL_fix A.length (n+1) (addRow rows l) s .ready i
    match i,hi with
    | 5,_ =>
     refine ⟨_,rfl, ?_⟩
     rw [ha]
     simp only [cells_shut,qbv,shut_sl,qby,shutL_append,(plainRows rows).shut,(plainWs l).shut]
     rw [own_own _ (by omega),own_new _ (by omega),← he]
     simp [TL]
    | 6,_=>exact ⟨_,rfl,by rw [ha];simp [TL]⟩
    | 0,_=>exact ⟨_,rfl,by rw [hfix _ rfl];rfl⟩
    | 1,_=>exact ⟨_,rfl,by rw [hfix _ rfl];rfl⟩
    | 2,_=>exact ⟨_,rfl,by rw [hfix _ rfl];rfl⟩
    | 3,_=>exact ⟨_,rfl,by rw [hfix _ rfl];rfl⟩
    | 4,_=>exact ⟨_,rfl,by rw [hfix _ rfl];rfl⟩
    | 7,_=>exact ⟨_,rfl,by rw [hfix _ rfl];rfl⟩
    | 8,_=>exact ⟨_,rfl,by rw [hfix _ rfl];rfl⟩
    | 9,_=>exact ⟨_,rfl,by rw [hfix _ rfl];rfl⟩
    | 10,_=>exact ⟨_,rfl,by rw [hfix _ rfl];rfl⟩
    | 11,_=>exact ⟨_,rfl,by rw [hfix _ rfl];rfl⟩)
   (repeat' first|((conv=>arg 2;arg 1;simp (disch:=first|omega|assumption) only [mL_cl,hcl2]);(with_reducible apply qac)))
   ((try conv=>arg 2;simp only []);refine qal ?_)
   rfl
  ·have ha:addRow rows l=rows:=by
    cases l with
    | nil=>rfl
    | cons w l=>simp only [List.length_cons] at *;omega
   have hcl2:=hcl (TL2 A.length (n+1) (.sl (.own (A.length+6) 0) 1 (rows.map encRow)) rows.length s .ready) rfl (fun i hi=>by
    have hlt:i<(TL A.length (n+1) rows s .ready).length:=hi
    rw [ha]
    exact ⟨_,List.getElem?_eq_getElem hlt,by rw [TL_fix _ _ _ _ _ i _ (List.getElem?_eq_getElem hlt)];exact List.getElem?_eq_getElem hlt⟩)
   (repeat' first|((conv=>arg 2;arg 1;simp (disch:=first|omega|assumption) only [mL_cl,hcl2]);(with_reducible apply qac)))
   ((try conv=>arg 2;simp only []);refine qal ?_)
   rfl
end Go.Vm.Rx
