/- RxS39, RxS40 in one text. -/
import Derived.Test.YtagmpieoalkneaaGreatDoorRxS38
import Derived.Test.YtagmpieoalkneaaGreatDoorRxS13
set_option linter.all false
/- The words of an expression: the reference's text. -/
namespace Go.Vm.Rx
open Go Go.Proofs P
set_option maxRecDepth 10000
set_option maxHeartbeats 2000000
theorem s123 (r:Rx) (hr:r.Ok) (A:St):f123 (encRx r) A=some (.ret (.int .i64 (r.binds:Nat)),A):=by
 have hl:=hr.len
 unfold f123 n123 Rx.binds;dsimp only
 refine qbb ?_
 by_cases h5:r.op=5
 ·rw [if_pos h5]
  (repeat' first|(with_reducible first|apply qa3|apply qai|apply qaa (b:=true)|apply qap|(apply qbn;omega))|((conv=>arg 2;arg 1;simp (disch:=first|omega|assumption) only [qaf,qa4,Nat.add_zero,qa7,ldc0,rx_box]);(with_reducible apply qac)))
  ((try conv=>arg 2;simp (disch:=first|omega|assumption) only [qae,qao,qam,qad,qaj,qab,qah,List.take_left']);refine qal ?_)
  rfl
 ·rw [if_neg h5]
  by_cases h4:r.op=4
  ·by_cases h0:r.ks=[]
   ·rw [if_neg (fun e=>e.2 h0)]
    have h1:r.ks.length=0:=by rw [h0];rfl
    (repeat' first|(with_reducible first|apply qa3|apply qaz|apply qai|apply qag (b:=true)|apply qaa (b:=true)|apply qaa (b:=false)|apply qan|apply qbd|(apply qbo;omega)|(apply qbn;omega)|(apply qbw;omega))|((conv=>arg 2;arg 1;simp (disch:=first|omega|assumption) only [qaq,qaf,qa4,qb3,Nat.zero_add,Nat.add_zero,qa0,qa7,ldc0,List.length_map,rx_box]);(with_reducible first|apply qac|apply qaa (b:=false))))
    ((try conv=>arg 2;simp (disch:=first|omega|assumption) only [qae,qao,qam,qad,qaj,qab,qah,List.take_left']);refine qal ?_)
    rfl
   ·rw [if_pos ⟨h4,h0⟩]
    have h1:0<r.ks.length:=List.length_pos_iff.2 h0
    (repeat' first|(with_reducible first|apply qa3|apply qaz|apply qai|apply qag (b:=true)|apply qaa (b:=true)|apply qaa (b:=false)|apply qap|apply qan|apply qbd|(apply qbx;omega)|(apply qbn;omega)|(apply qbw;omega))|((conv=>arg 2;arg 1;simp (disch:=first|omega|assumption) only [qaq,qaf,qa4,qb3,Nat.zero_add,Nat.add_zero,qa0,qa7,ldc0,List.length_map,rx_box]);(with_reducible first|apply qac|apply qaa (b:=true))))
    ((try conv=>arg 2;simp (disch:=first|omega|assumption) only [qae,qao,qam,qad,qaj,qab,qah,List.take_left']);refine qal ?_)
    rfl
  ·rw [if_neg (fun e=>h4 e.1)]
   (repeat' first|(with_reducible first|apply qac|apply qa3|apply qaz|apply qai|apply qag (b:=false)|apply qaa (b:=false)|apply qan|apply qbj|(apply qbw;omega))|((conv=>arg 2;arg 1;simp (disch:=first|omega|assumption) only [qak,qaf,qa4,Nat.add_zero,qa7,ldc0,rx_box]);(with_reducible first|apply qac|apply qaa (b:=false))))
   ((try conv=>arg 2;simp (disch:=first|omega|assumption) only [qae,qao,qam,qad,qaj,qab,qah,List.take_left']);refine qal ?_)
   rfl
theorem body_dev {r:Rx} (h:r.op=1):r.body=[r.nm]:=by
 obtain ⟨op,nm,ks⟩:=r
 cases (h:op=1)
 rfl
theorem body_cls {r:Rx} (h:r.op=2):r.body=[[36],r.nm]:=by
 obtain ⟨op,nm,ks⟩:=r
 cases (h:op=2)
 rfl
theorem body_any {r:Rx} (h:r.op=3):r.body=[[46]]:=by
 obtain ⟨op,nm,ks⟩:=r
 cases (h:op=3)
 rfl
theorem body_emp {r:Rx} (h:r.op=4) (h2:r.ks=[]):r.body=[[40],[41]]:=by
 obtain ⟨op,nm,ks⟩:=r
 cases (h:op=4)
 cases (h2:ks=[])
 rfl
theorem body_seq {r:Rx} (h:r.op=4) (h2:r.ks≠[]):r.body=Rx.seqs r.ks:=by
 obtain ⟨op,nm,ks⟩:=r
 cases (h:op=4)
 cases ks with
 | nil=>exact absurd rfl h2
 | cons k ks=>rfl
theorem body_alt {r:Rx} (h:r.op=5):r.body=Rx.alts r.ks:=by
 obtain ⟨op,nm,ks⟩:=r
 cases (h:op=5)
 rfl
theorem body_rep {r k:Rx} (h:r.op=6∨r.op=7∨r.op=8) (h2:r.ks=[k]):r.body=k.say 3++[markOf r.op]:=by
 obtain ⟨op,nm,ks⟩:=r
 cases (h2:ks=[k])
 rcases h with h|h|h
 ·cases (h:op=6);rfl
 ·cases (h:op=7);rfl
 ·cases (h:op=8);rfl
def RSpec (r:Rx) (c:Nat) (a b:Int):Prop:=∀ A,Tot (RowOut A 1 ((r.say c).map .str)) (f125 (encRx r) (.int .i64 a) (.int .i64 b) A)
theorem RSpec.get {r:Rx} {c:Nat} {a b:Int} (h:RSpec r c a b) (A:St):∃ o,AccOk o 1 ((r.say c).map .str)∧f125 (encRx r) (.int .i64 a) (.int .i64 b) A=some (.ret (accD o A.length 1 ((r.say c).map .str)),accA o A ((r.say c).map .str)):=by
 obtain ⟨_,h1,o,ho,rfl⟩:=h A
 exact ⟨o,ho,h1⟩
theorem say_len (r:Rx) (c:Nat):(r.say c).length≤5 * r.size:=by
 have h1:=Rx.body_len r
 have h2:=wrap_len c r r.body
 unfold Rx.say
 omega
theorem kid_size {r k:Rx} (h:k ∈ r.ks):k.size<r.size:=by
 have:=ins_kid h
 have h1:=Rx.size_eq r
 have hp:=Rx.size_pos k
 unfold Rx.ins at this
 split at this
 ·rename_i e;rw [e] at h;cases h
 ·omega
theorem s125_seqs (r:Rx) (hr:r.Ok) (hs:r.size≤1000) (hk:∀ k,k ∈ r.ks→RSpec k 2 5 5) (A:St):∀ (t:List Rx) (i:Nat) (S:St) (d:D) (acc:List Str),r.ks.drop i=t→Grow A (.cells [.int .i64 r.op,.str r.nm,encL 3 (r.ks.map encRx)]) 1 S d (acc.map .str)→acc.length+5 * Rx.sizes t≤10000 →
  Tot (RowOut A 1 ((acc++Rx.seqs t).map .str)) (LP Tryz.prog rxA 125 [0,1,0,1,0,1,1,1,1,1,1,1,0,1,0,1,1,1] [A] (Env.mk (sp [(3,.ref A.length 0),(3,d),(0,.int .i64 (i:Nat))] 104) []) S):=by
 intro t
 have hl:=hr.len
 induction t with
 | nil =>
  intro i S d acc ht hg hb
  have h1:=qb1 ht
  have hbx:=fun gg m off=>hg.box (gg:=gg) (m:=m) (off:=off)
  have ho:=hg.out (plainStrs acc)
  refine qbh (q125_0 ..) ?_
  unfold n125_0;dsimp only
  (repeat' first|(with_reducible first|apply qa3|apply qai|apply qaa (b:=false)|apply qan)|((conv=>arg 2;arg 1;simp (disch:=first|omega|assumption) only [Option.map_some,qax,qaf,qa4,qb3,Nat.zero_add,qa6,qa9,qa8,qa0,List.length_map,hbx]);(with_reducible first|apply qac|(apply qa2;omega))))
  obtain ⟨x,hx,hx2⟩:=ho
  refine ⟨x, ?_,by simpa [Rx.seqs] using hx2⟩
  conv=>lhs;simp (disch:=first|omega|assumption) only [hx]
 | cons k t ih =>
  intro i S d acc ht hg hb
  have h1:=qbz ht
  have hx:=qb6 (f:=encRx) ht 3 true .i64
  have hbx:=fun gg m off=>hg.box (gg:=gg) (m:=m) (off:=off)
  obtain ⟨o,ho,hcall⟩:=(hk k (drop_mem ht)).get S
  have hlen:=say_len k 2
  simp only [Rx.sizes] at hb
  obtain ⟨d',S',hap,hg',_⟩:=(hg.accA o ((k.say 2).map .str)).app0 (w:=16) (appendNew_acc (c:=S.length) ho) (by simp only [List.length_map];omega) (by omega)
  rw [← List.map_append] at hg'
  have:=ih (i+1) S' d' (acc++k.say 2) (qbi ht) hg' (by rw [List.length_append];omega)
  have e:acc++Rx.seqs (k::t)=acc++k.say 2++Rx.seqs t:=by simp [Rx.seqs,Rx.say]
  rw [e]
  refine qbh (q125_0 ..) ?_
  unfold n125_0;dsimp only
  (repeat' first|(with_reducible first|apply qa3|apply qa1|apply qaa (b:=true)|apply qap)|((conv=>arg 2;arg 1;simp (disch:=first|omega|assumption) only [qbe,qa5,qaf,qav,qa4,qb3,Nat.zero_add,ofA3,qa6,qa9,qa8,qbc,qaj,qa0,List.length_map,hbx,hx,rx_cell,rx_fold,qb2,r125,hcall,hap]);(with_reducible first|apply qac|(apply qas;omega))))
  conv=>arg 2;simp only [qa6,qa9]
  exact this
theorem s125_alts (r:Rx) (hr:r.Ok) (hs:r.size≤1000) (hk:∀ k,k ∈ r.ks→RSpec k 2 0 0) (A:St):∀ (t:List Rx) (i:Nat) (S:St) (d:D) (acc:List Str),r.ks.drop i=t→Grow A (.cells [.int .i64 r.op,.str r.nm,encL 3 (r.ks.map encRx)]) 1 S d (acc.map .str)→acc.length+5 * Rx.sizes t≤10000 →
  Tot (RowOut A 1 ((acc++(if i=0 then Rx.alts t else Rx.altF t)).map .str)) (LP Tryz.prog rxA 125 [0,1,0,0,1,1,1,1,1,1,1,1,1,0,1,0,1,1,1] [A] (Env.mk (sp [(3,.ref A.length 0),(3,d),(1,.int .i64 (i:Nat))] 103) []) S):=by
 intro t
 have hl:=hr.len
 induction t with
 | nil =>
  intro i S d acc ht hg hb
  have h1:=qb1 ht
  have hbx:=fun gg m off=>hg.box (gg:=gg) (m:=m) (off:=off)
  have ho:=hg.out (plainStrs acc)
  refine qbh (q125_1 ..) ?_
  unfold n125_1;dsimp only
  (repeat' first|(with_reducible first|apply qa3|apply qai|apply qaa (b:=false)|apply qan)|((conv=>arg 2;arg 1;simp (disch:=first|omega|assumption) only [Option.map_some,qax,qaf,qa4,qb3,Nat.zero_add,qa6,qa9,qa8,qa0,List.length_map,hbx]);(with_reducible first|apply qac|(apply qa2;omega))))
  obtain ⟨x,hx,hx2⟩:=ho
  refine ⟨x, ?_,by split<;>simpa [Rx.alts,Rx.altF] using hx2⟩
  conv=>lhs;simp (disch:=first|omega|assumption) only [hx]
 | cons k t ih =>
  intro i S d acc ht hg hb
  have h1:=qbz ht
  have hx:=qb6 (f:=encRx) ht 3 true .i64
  have hbx:=fun gg m off=>hg.box (gg:=gg) (m:=m) (off:=off)
  have hlen:=say_len k 2
  simp only [Rx.sizes] at hb
  have hb2:=Rx.body_len k
  have hb3:=wrap_len 2 k k.body
  by_cases h0:i=0
  ·subst h0
   obtain ⟨o,ho,hcall⟩:=(hk k (drop_mem ht)).get S
   obtain ⟨d',S',hap,hg',_⟩:=(hg.accA o ((k.say 2).map .str)).app0 (w:=16) (appendNew_acc (c:=S.length) ho) (by simp only [List.length_map];omega) (by omega)
   rw [← List.map_append] at hg'
   have:=ih 1 S' d' (acc++k.say 2) (qbi ht) hg' (by rw [List.length_append];omega)
   have e:acc++Rx.alts (k::t)=acc++k.say 2++Rx.altF t:=by simp [Rx.alts,Rx.say]
   rw [if_pos rfl,e]
   rw [if_neg (by omega)] at this
   rw [Int.natCast_zero] at hx ⊢
   refine qbh (q125_1 ..) ?_
   unfold n125_1;dsimp only
   (repeat' first|(with_reducible first|(apply tot_jn;intro hkk hke)|(apply tot_jk;· assumption)|apply qa3|apply qa1|apply qaa (b:=true)|apply qaa (b:=false)|apply qap|apply qan)|((conv=>arg 2;arg 1;simp (disch:=first|omega|assumption) only [qbe,qa5,qaf,qav,qa4,qb3,Nat.zero_add,ofA3,qa6,qa9,qa8,qbc,qaj,qa0,List.length_map,Int.reduceAdd,eg_0,eg_S,hbx,hx,rx_cell,rx_fold,qb2,r125,hcall,hap]);(with_reducible first|apply qac|(apply qas;omega)|(apply qbo;omega))))
   conv=>arg 2;simp only [qa6,qa9,qa8,eg_0,eg_S]
   exact this
  ·obtain ⟨d1,S1,hap1,hg1,_⟩:=hg.app0 (y:=.sl .full 1 [.str [124]]) (new:=[.str [124]]) (w:=16) rfl (by simp;omega) (by omega)
   have hbx1:=fun gg m off=>hg1.box (gg:=gg) (m:=m) (off:=off)
   have hsp:sliceParts 1 false 0 [(0,.str [124])]=some [.str [124]]:=rfl
   obtain ⟨o,ho,hcall⟩:=(hk k (drop_mem ht)).get S1
   have e1:List.map D.str acc++[D.str [124]]=(acc++[[124]]).map .str:=by simp
   rw [e1] at hg1
   obtain ⟨d',S',hap,hg',_⟩:=(hg1.accA o ((k.say 2).map .str)).app0 (w:=16) (appendNew_acc (c:=S1.length) ho) (by simp only [List.length_map,List.length_append,List.length_cons,List.length_nil];omega) (by omega)
   rw [← List.map_append] at hg'
   have:=ih (i+1) S' d' (acc++[[124]]++k.say 2) (qbi ht) hg' (by simp only [List.length_append,List.length_cons,List.length_nil];unfold Rx.say at *;omega)
   have e:acc++Rx.altF (k::t)=acc++[[124]]++k.say 2++Rx.altF t:=by simp [Rx.altF,Rx.say]
   rw [if_neg h0,e]
   rw [if_neg (by omega)] at this
   refine qbh (q125_1 ..) ?_
   unfold n125_1;dsimp only
   (repeat' first|(with_reducible first|(apply tot_jn;intro hkk hke)|(apply tot_jk;· assumption)|apply qa3|apply qa1|apply qaa (b:=true)|apply qap)|((conv=>arg 2;arg 1;simp (disch:=first|omega|assumption) only [qbe,qa5,qaf,qav,qa4,qb3,Nat.zero_add,ofA3,qa6,qa9,qa8,qbc,qaj,qa0,qb4,List.length_map,eg_0,eg_S,hbx,hbx1,hx,rx_cell,rx_fold,qb2,r125,hcall,hap1,hap]);(with_reducible first|apply qac|(apply qas;omega)|(apply qbx;omega))))
   conv=>arg 2;simp only [qa6,qa9,qa8,eg_0,eg_S]
   exact this
end Go.Vm.Rx

/- The words of an expression: all of the reference's text. -/
namespace Go.Vm.Rx
open Go Go.Proofs P
set_option maxRecDepth 10000
set_option maxHeartbeats 4000000
theorem lit_out {A L:St} {s0:Slot} (ws:List Str):Tot (RowOut A 1 (ws.map .str)) (leaveD RetK.own A (.ret (.sl .full 1 (ws.map .str))) (A++s0::L)):=(Grow.lit A s0 1 L (ws.map .str)).out (plainStrs ws)
theorem say_wrap {r:Rx} {c:Nat} (h:r.binds<c):r.say c=[[40]]++r.body++[[41]]:=by unfold Rx.say wrapR;rw [if_pos h];rfl
theorem say_bare {r:Rx} {c:Nat} (h:¬ r.binds<c):r.say c=r.body:=by unfold Rx.say wrapR;rw [if_neg h]
theorem s125_body (r:Rx) (hr:r.Ok) (hs:r.size≤1000) (hrt:r.right=true) (hk2:∀ k,k ∈ r.ks→RSpec k 2 5 5∨r.op≠4) (hk5:∀ k,k ∈ r.ks→RSpec k 2 0 0∨r.op≠5) (hk3:∀ k,k ∈ r.ks→RSpec k 3 5 4) (a b:Int) (hab:(r.op=a∨r.op=b)→r.ks=[]) (A:St) :
  Tot (RowOut A 1 (r.body.map .str)) (f125 (encRx r) (.int .i64 a) (.int .i64 b) A):=by
 have hl:=hr.len
 rw [Rx.right_eq,Bool.and_eq_true] at hrt
 obtain ⟨hn,_⟩:=hrt
 have hsp1:sliceParts 1 false 0 [(0,.str [46])]=some [.str [46]]:=rfl
 unfold f125 n125;dsimp only
 rcases nodeOk_cases hn with ⟨h0|h0,hnm,hks⟩|⟨h0,hnm,hks⟩|⟨h0,hnm,h2,h3⟩|⟨h0,hnm,h2,h3⟩|⟨h0,hnm,k,hks⟩
 ·rw [body_dev h0]
  have hl0:r.ks.length=0:=by rw [hks];rfl
  have ho:=lit_out (A:=A) (s0:=.cells [.int .i64 r.op,.str r.nm,encL 3 (r.ks.map encRx)]) (L:=[]) [r.nm]
  simp only [List.map_cons,List.map_nil] at ho ⊢
  (repeat' first|(with_reducible first|apply qac|apply qa3|apply qaz|apply qai|apply qag (b:=true)|apply qag (b:=false)|apply qaa (b:=true)|apply qaa (b:=false)|apply qap|apply qan|apply qbd|apply qbj|apply qbq|apply qba|(apply qbo;omega)|(apply qbn;omega)|(apply tot_eql;all_goals intro hsp))|((conv=>arg 2;arg 1;simp (disch:=first|omega|assumption) only [qaq,qak,qaf,qa4,qb3,Nat.zero_add,Nat.add_zero,qa0,qa7,ldc0,qb4,List.length_map,rx_box]);(with_reducible first|apply qac|apply qag (b:=true)|apply qag (b:=false)|apply qaa (b:=true)|apply qaa (b:=false))))
  all_goals (conv=>arg 2;simp only [])
  all_goals exact ho
 ·rw [body_cls h0]
  have hl0:r.ks.length=0:=by rw [hks];rfl
  have ho:=lit_out (A:=A) (s0:=.cells [.int .i64 r.op,.str r.nm,encL 3 (r.ks.map encRx)]) (L:=[]) [[36],r.nm]
  simp only [List.map_cons,List.map_nil] at ho ⊢
  (repeat' first|(with_reducible first|apply qac|apply qa3|apply qaz|apply qai|apply qag (b:=true)|apply qag (b:=false)|apply qaa (b:=true)|apply qaa (b:=false)|apply qap|apply qan|apply qbd|apply qbj|apply qbq|apply qba|(apply qbo;omega)|(apply qbn;omega)|(apply qbw;omega)|(apply tot_eql;all_goals intro hsp))|((conv=>arg 2;arg 1;simp (disch:=first|omega|assumption) only [qaq,qak,qaf,qa4,qb3,Nat.zero_add,Nat.add_zero,qa0,qa7,ldc0,sparts_str2,List.length_map,rx_box]);(with_reducible first|apply qac|apply qag (b:=true)|apply qag (b:=false)|apply qaa (b:=true)|apply qaa (b:=false))))
  all_goals (conv=>arg 2;simp only [])
  all_goals exact ho
 ·rw [body_any h0]
  have hl0:r.ks.length=0:=by rw [hks];rfl
  have ho:=lit_out (A:=A) (s0:=.cells [.int .i64 r.op,.str r.nm,encL 3 (r.ks.map encRx)]) (L:=[]) [[46]]
  simp only [List.map_cons,List.map_nil] at ho ⊢
  (repeat' first|(with_reducible first|apply qac|apply qa3|apply qaz|apply qai|apply qag (b:=true)|apply qag (b:=false)|apply qaa (b:=true)|apply qaa (b:=false)|apply qap|apply qan|apply qbd|apply qbj|apply qbq|apply qba|(apply qbo;omega)|(apply qbn;omega)|(apply qbw;omega)|(apply tot_eql;all_goals intro hsp))|((conv=>arg 2;arg 1;simp (disch:=first|omega|assumption) only [qaq,qak,qaf,qa4,qb3,Nat.zero_add,Nat.add_zero,qa0,qa7,ldc0,qb4,List.length_map,rx_box]);(with_reducible first|apply qac|apply qag (b:=true)|apply qag (b:=false)|apply qaa (b:=true)|apply qaa (b:=false))))
  all_goals (conv=>arg 2;simp only [])
  all_goals exact ho
 ·by_cases hks:r.ks=[]
  ·rw [body_emp h0 hks]
   have hl0:r.ks.length=0:=by rw [hks];rfl
   have ho:=lit_out (A:=A) (s0:=.cells [.int .i64 r.op,.str r.nm,encL 3 (r.ks.map encRx)]) (L:=[]) [[40],[41]]
   simp only [List.map_cons,List.map_nil] at ho ⊢
   (repeat' first|(with_reducible first|apply qac|apply qa3|apply qaz|apply qai|apply qag (b:=true)|apply qag (b:=false)|apply qaa (b:=true)|apply qaa (b:=false)|apply qap|apply qan|apply qbd|apply qbj|apply qbq|apply qba|(apply qbo;omega)|(apply qbn;omega)|(apply qbw;omega)|(apply tot_eql;all_goals intro hsp))|((conv=>arg 2;arg 1;simp (disch:=first|omega|assumption) only [qaq,qak,qaf,qa4,qb3,Nat.zero_add,Nat.add_zero,qa0,qa7,ldc0,sparts_str2,List.length_map,rx_box]);(with_reducible first|apply qac|apply qag (b:=true)|apply qag (b:=false)|apply qaa (b:=true)|apply qaa (b:=false))))
   all_goals (conv=>arg 2;simp only [])
   all_goals exact ho
  ·rw [body_seq h0 hks]
   have hl0:0<r.ks.length:=List.length_pos_iff.2 hks
   have hna:¬ r.op=a:=fun e=>hks (hab (.inl e))
   have hnb:¬ r.op=b:=fun e=>hks (hab (.inr e))
   have hsz:=Rx.size_eq r
   have hlo:=s125_seqs r hr hs (fun k hk=>(hk2 k hk).resolve_right (fun h=>h h0)) A r.ks 0 _ _ [] rfl (Grow.nil A _ 1 []) (by simp;omega)
   (repeat' first|(with_reducible first|apply qac|apply qa3|apply qaz|apply qag (b:=false)|apply qaa (b:=true)|apply qaa (b:=false)|apply qap|apply qan|apply qbj|apply qba|(apply qbn;omega)|(apply qbw;omega))|((conv=>arg 2;arg 1;simp (disch:=first|omega|assumption) only [qak,qaf,qa4,qb3,Nat.zero_add,Nat.add_zero,qa0,qa7,ldc0,List.length_map,rx_box]);(with_reducible first|apply qac|apply qag (b:=false)|apply qaa (b:=false))))
   all_goals (conv=>arg 2;simp only [])
   all_goals exact hlo
 ·rw [body_alt h0]
  have hks:r.ks≠[]:=by intro e;rw [e] at h2;simp at h2
  have hl0:0<r.ks.length:=List.length_pos_iff.2 hks
  have hna:¬ r.op=a:=fun e=>hks (hab (.inl e))
  have hnb:¬ r.op=b:=fun e=>hks (hab (.inr e))
  have hsz:=Rx.size_eq r
  have hlo:=s125_alts r hr hs (fun k hk=>(hk5 k hk).resolve_right (fun h=>h h0)) A r.ks 0 _ _ [] rfl (Grow.nil A _ 1 []) (by simp;omega)
  (repeat' first|(with_reducible first|apply qac|apply qa3|apply qaz|apply qag (b:=false)|apply qaa (b:=true)|apply qaa (b:=false)|apply qap|apply qan|apply qbj|apply qba|(apply qbn;omega)|(apply qbw;omega))|((conv=>arg 2;arg 1;simp (disch:=first|omega|assumption) only [qak,qaf,qa4,Nat.add_zero,qa7,ldc0,rx_box]);(with_reducible first|apply qac|apply qag (b:=false)|apply qaa (b:=false))))
  all_goals (conv=>arg 2;simp only [])
  all_goals exact hlo
 ·rw [body_rep h0 hks]
  have hne:r.ks≠[]:=by rw [hks];simp
  have hna:¬ r.op=a:=fun e=>hne (hab (.inl e))
  have hnb:¬ r.op=b:=fun e=>hne (hab (.inr e))
  have hkm:k ∈ r.ks:=by rw [hks];simp
  have hlen:=say_len k 3
  have hkz:=kid_size hkm
  have hx:=qb6 (f:=encRx) (l:=r.ks) (i:=0) (x:=k) (t:=[]) (by rw [hks];rfl) 3 true .i64
  rw [Int.natCast_zero] at hx
  have hm1:sliceParts 1 false 0 [(0,.str [42])]=some [.str [42]]:=rfl
  have hm2:sliceParts 1 false 0 [(0,.str [43])]=some [.str [43]]:=rfl
  have hm3:sliceParts 1 false 0 [(0,.str [63])]=some [.str [63]]:=rfl
  obtain ⟨o,ho,hcall⟩:=(hk3 k hkm).get (A++[.cells [.int .i64 r.op,.str r.nm,encL 3 (r.ks.map encRx)]])
  have hg:=Grow.acc (A:=A) (s0:=.cells [.int .i64 r.op,.str r.nm,encL 3 (r.ks.map encRx)]) (L:=[]) ho
  have hbx:=fun gg m off=>hg.box (gg:=gg) (m:=m) (off:=off)
  obtain ⟨d',S',hap,hg',_⟩:=hg.app0 (y:=.sl .full 1 [.str (markOf r.op)]) (new:=[.str (markOf r.op)]) (w:=16) rfl (by simp only [List.length_map,List.length_cons,List.length_nil];omega) (by omega)
  have e:List.map D.str (k.say 3++[markOf r.op])=List.map D.str (k.say 3)++[D.str (markOf r.op)]:=by simp
  have hout:=hg'.out (by rw [← e];exact plainStrs _)
  rw [← e] at hout
  have hnk:¬ (r.ks.length:Int)=0:=by rw [hks];simp
  generalize k.say 3=ws at *
  generalize accA o (A++[.cells [.int .i64 r.op,.str r.nm,encL 3 (r.ks.map encRx)]]) (ws.map .str)=S1 at *
  generalize accD o (A++[Slot.cells [.int .i64 r.op,.str r.nm,encL 3 (r.ks.map encRx)]]).length 1 (ws.map .str)=d1 at *
  rcases h0 with h0|h0|h0
  ·have em:markOf r.op=[42]:=by rw [h0];rfl
   rw [em] at hap hout ⊢
   (repeat' first|(with_reducible first|apply qac|apply qa3|apply qaz|apply qa1|apply qai|apply qag (b:=false)|apply qaa (b:=true)|apply qaa (b:=false)|apply qap|apply qan|apply qbj|apply qba|(apply qbn;omega)|(apply qbw;omega))|((conv=>arg 2;arg 1;simp (disch:=first|omega|assumption) only [qak,qaf,qav,qa4,qb3,Nat.zero_add,Nat.add_zero,ofA3,qbc,qaj,qa7,ldc0,qb4,rx_box,rx_cell,hbx,hx,rx_fold,qb2,r125,hcall,hap]);(with_reducible first|apply qac|apply qag (b:=false)|apply qaa (b:=false))))
   all_goals (conv=>arg 2;simp only [])
   all_goals exact hout
  ·have em:markOf r.op=[43]:=by rw [h0];rfl
   rw [em] at hap hout ⊢
   (repeat' first|(with_reducible first|apply qac|apply qa3|apply qaz|apply qa1|apply qai|apply qag (b:=false)|apply qaa (b:=true)|apply qaa (b:=false)|apply qap|apply qan|apply qbj|apply qba|(apply qbn;omega)|(apply qbw;omega))|((conv=>arg 2;arg 1;simp (disch:=first|omega|assumption) only [qak,qaf,qav,qa4,qb3,Nat.zero_add,Nat.add_zero,ofA3,qbc,qaj,qa7,ldc0,qb4,rx_box,rx_cell,hbx,hx,rx_fold,qb2,r125,hcall,hap]);(with_reducible first|apply qac|apply qag (b:=false)|apply qaa (b:=false))))
   all_goals (conv=>arg 2;simp only [])
   all_goals exact hout
  ·have em:markOf r.op=[63]:=by rw [h0];rfl
   rw [em] at hap hout ⊢
   (repeat' first|(with_reducible first|apply qac|apply qa3|apply qaz|apply qa1|apply qai|apply qag (b:=false)|apply qaa (b:=false)|apply qan|apply qbj|apply qba|(apply qbw;omega))|((conv=>arg 2;arg 1;simp (disch:=first|omega|assumption) only [qak,qaf,qav,qa4,qb3,Nat.zero_add,Nat.add_zero,ofA3,qbc,qaj,qa7,ldc0,qb4,rx_box,rx_cell,hbx,hx,rx_fold,qb2,r125,hcall,hap]);(with_reducible first|apply qac|apply qag (b:=false)|apply qaa (b:=false))))
   all_goals (conv=>arg 2;simp only [])
   all_goals exact hout
theorem s125_wrap (r:Rx) (hr:r.Ok) (hs:r.size≤1000) (hks:r.ks≠[]) (hb:RSpec r 1 0 0) (a b:Int) (hab:r.op=a∨r.op=b) (A:St) :
  Tot (RowOut A 1 (([[40]]++r.body++[[41]]).map .str)) (f125 (encRx r) (.int .i64 a) (.int .i64 b) A):=by
 have hl:=hr.len
 have hl0:0<r.ks.length:=List.length_pos_iff.2 hks
 have hlen:=say_len r 1
 have hsay:r.say 1=r.body:=say_bare (by unfold Rx.binds;split<;>first|omega|(split<;>omega))
 obtain ⟨o,ho,hcall⟩:=hb.get (A++[.cells [.int .i64 r.op,.str r.nm,encL 3 (r.ks.map encRx)]])
 rw [hsay] at hlen ho hcall
 have hg0:=(Grow.lit A (.cells [.int .i64 r.op,.str r.nm,encL 3 (r.ks.map encRx)]) 1 [] [.str [40]]).accA o (r.body.map .str)
 have hsp0:sliceParts 1 false 0 [(0,.str [40])]=some [.str [40]]:=rfl
 have hsp1:sliceParts 1 false 0 [(0,.str [41])]=some [.str [41]]:=rfl
 obtain ⟨d1,S1,hap1,hg1,_⟩:=hg0.app0 (w:=16) (appendNew_acc (c:=(A++[Slot.cells [.int .i64 r.op,.str r.nm,encL 3 (r.ks.map encRx)]]).length) ho) (by simp only [List.length_map,List.length_cons,List.length_nil];omega) (by omega)
 obtain ⟨d2,S2,hap2,hg2,_⟩:=hg1.app0 (y:=.sl .full 1 [.str [41]]) (new:=[.str [41]]) (w:=16) rfl (by simp only [List.length_map,List.length_append,List.length_cons,List.length_nil];omega) (by omega)
 have e:List.map D.str ([[40]]++r.body++[[41]])=[D.str [40]]++List.map D.str r.body++[D.str [41]]:=by simp
 have hout:=hg2.out (by rw [← e];exact plainStrs _)
 rw [← e] at hout
 generalize accA o (A++[.cells [.int .i64 r.op,.str r.nm,encL 3 (r.ks.map encRx)]]) (r.body.map .str)=S0 at *
 generalize accD o (A++[Slot.cells [.int .i64 r.op,.str r.nm,encL 3 (r.ks.map encRx)]]).length 1 (r.body.map .str)=d0 at *
 unfold f125 n125;dsimp only
 rcases hab with h|h
 ·(repeat' first|(with_reducible first|apply qac|apply qa3|apply qaz|apply qa1|apply qai|apply qag (b:=true)|apply qaa (b:=true)|apply qap|apply qbd|apply qbq|(apply qbx;omega)|(apply qbn;omega))|((conv=>arg 2;arg 1;simp (disch:=first|omega|assumption) only [qaq,qaf,qa4,qb3,Nat.zero_add,Nat.add_zero,ofA3,qaj,qa0,qa7,ldc0,qb4,List.length_map,rx_box,rx_fold,qb2,r125,hcall,hap1,hap2]);(with_reducible first|apply qac|apply qag (b:=true)|apply qaa (b:=true))))
  all_goals (conv=>arg 2;simp only [])
  all_goals exact hout
 ·by_cases h':r.op=a
  ·(repeat' first|(with_reducible first|apply qac|apply qa3|apply qaz|apply qa1|apply qai|apply qag (b:=true)|apply qaa (b:=true)|apply qap|apply qbd|apply qbq|(apply qbx;omega)|(apply qbn;omega))|((conv=>arg 2;arg 1;simp (disch:=first|omega|assumption) only [qaq,qaf,qa4,qb3,Nat.zero_add,Nat.add_zero,ofA3,qaj,qa0,qa7,ldc0,qb4,List.length_map,rx_box,rx_fold,qb2,r125,hcall,hap1,hap2]);(with_reducible first|apply qac|apply qag (b:=true)|apply qaa (b:=true))))
   all_goals (conv=>arg 2;simp only [])
   all_goals exact hout
  ·(repeat' first|(with_reducible first|apply qac|apply qa3|apply qaz|apply qa1|apply qai|apply qag (b:=false)|apply qaa (b:=false)|apply qap|apply qbd|apply qba|(apply qbx;omega)|(apply qbn;omega)|(apply qbw;omega))|((conv=>arg 2;arg 1;simp (disch:=first|omega|assumption) only [qaq,qak,qaf,qa4,qb3,Nat.zero_add,Nat.add_zero,ofA3,qaj,qa0,qa7,ldc0,qb4,List.length_map,rx_box,rx_fold,qb2,r125,hcall,hap1,hap2]);(with_reducible first|apply qac|apply qag (b:=true)|apply qaa (b:=true))))
   all_goals (conv=>arg 2;simp only [])
   all_goals exact hout
theorem right_op {r:Rx} (h:r.right=true):r.op≠0:=by
 rw [Rx.right_eq,Bool.and_eq_true] at h
 rcases nodeOk_cases h.1 with ⟨h0|h0,_⟩|⟨h0,_⟩|⟨h0,_⟩|⟨h0,_⟩|⟨h0|h0|h0,_⟩<;>rw [h0]<;>decide
theorem kid_op {r k:Rx} (h:r.right=true) (hk:k ∈ r.ks) (ho:r.op=4∨r.op=5):k.op≠r.op:=by
 rw [Rx.right_eq,Bool.and_eq_true] at h
 rcases nodeOk_cases h.1 with ⟨h0,_⟩|⟨h0,_⟩|⟨h0,_,_,h3⟩|⟨h0,_,_,h3⟩|⟨h0,_⟩
 ·omega
 ·omega
 ·rw [h0];exact hasOp_no h3 k hk
 ·rw [h0];exact hasOp_no h3 k hk
 ·omega
theorem s125:∀ (r:Rx) (hr:r.Ok) (hs:r.size≤1000) (hrt:r.right=true),RSpec r 1 0 0∧RSpec r 2 5 5∧(r.op≠5→RSpec r 2 0 0)∧RSpec r 3 5 4:=by
 refine Rx.ind fun r ih hr hs hrt=>?_
 have hkr:∀ k,k ∈ r.ks→k.right=true:=by
  have:=hrt
  rw [Rx.right_eq,Bool.and_eq_true] at this
  exact rights_mem this.2
 have hkk:∀ k,k ∈ r.ks→RSpec k 1 0 0∧RSpec k 2 5 5∧(k.op≠5→RSpec k 2 0 0)∧RSpec k 3 5 4:=fun k hk=>ih k hk (hr.kid hk) (by have:=kid_size hk;omega) (hkr k hk)
 have hbody:=s125_body r hr hs hrt (fun k hk=>.inl (hkk k hk).2.1) (fun k hk=>by
  by_cases h5:r.op=5
  ·have:=kid_op hrt hk (.inr h5);rw [h5] at this
   exact .inl ((hkk k hk).2.2.1 this)
  ·exact .inr h5) (fun k hk=>(hkk k hk).2.2.2)
 have h0:=right_op hrt
 have hb1:¬ r.binds<1:=by unfold Rx.binds;split<;>first|omega|(split<;>omega)
 have s1:RSpec r 1 0 0:=fun A=>by rw [say_bare hb1];exact hbody 0 0 (fun h=>by omega) A
 refine ⟨s1,fun A=>?_,fun h5 A=>?_,fun A=>?_⟩
 ·by_cases h5:r.op=5
  ·have hks:r.ks≠[]:=by
    intro e
    have:=hrt
    rw [Rx.right_eq,Bool.and_eq_true] at this
    rcases nodeOk_cases this.1 with ⟨h0,_⟩|⟨h0,_⟩|⟨h0,_⟩|⟨h0,_,h2,_⟩|⟨h0,_⟩
    ·omega
    ·omega
    ·omega
    ·rw [e] at h2;simp at h2
    ·omega
   rw [say_wrap (by unfold Rx.binds;rw [if_pos h5];omega)]
   exact s125_wrap r hr hs hks s1 5 5 (.inl h5) A
  ·rw [say_bare (by unfold Rx.binds;rw [if_neg h5];split<;>omega)]
   exact hbody 5 5 (fun h=>by omega) A
 ·rw [say_bare (by unfold Rx.binds;rw [if_neg h5];split<;>omega)]
  exact hbody 0 0 (fun h=>by omega) A
 ·by_cases h5:r.op=5∨(r.op=4∧r.ks≠[])
  ·have hks:r.ks≠[]:=by
    rcases h5 with h5|h5
    ·intro e
     have:=hrt
     rw [Rx.right_eq,Bool.and_eq_true] at this
     rcases nodeOk_cases this.1 with ⟨h0,_⟩|⟨h0,_⟩|⟨h0,_⟩|⟨h0,_,h2,_⟩|⟨h0,_⟩
     ·omega
     ·omega
     ·omega
     ·rw [e] at h2;simp at h2
     ·omega
    ·exact h5.2
   rw [say_wrap (by unfold Rx.binds;split<;>first|omega|(split<;>first|omega|(exfalso;rcases h5 with h|h<;>first|omega|exact absurd h ‹_›)))]
   exact s125_wrap r hr hs hks s1 5 4 (h5.imp id fun h=>h.1) A
  ·rw [say_bare (by unfold Rx.binds;rw [if_neg (fun h=>h5 (.inl h)),if_neg (fun h=>h5 (.inr h))];omega)]
   refine hbody 5 4 (fun h=>?_) A
   rcases h with h|h
   ·exact absurd (.inl h) h5
   ·cases hks:r.ks with
    | nil=>rfl
    | cons k ks=>exact absurd (.inr ⟨h,by rw [hks];simp⟩) h5
end Go.Vm.Rx
