/- RxS41, RxS42, RxS78, RxS79 in one text. -/
import Derived.Test.YtagmpieoalkneaaGreatDoorRxS40
import Derived.Test.YtagmpieoalkneaaGreatDoorRxS35
import Derived.Test.YtagmpieoalkneaaGreatDoorRxI6
set_option linter.all false
/- The words of an expression: the program's text. -/
namespace Go.Vm.Rx
open Go Go.Proofs P
set_option maxRecDepth 10000
set_option maxHeartbeats 4000000
def SSpec (r:Rx) (c:Nat):Prop:=∀ A,Tot (RowOut A 1 ((r.say c).map .str)) (f86 (encRx r) (.int .i64 (c:Nat)) A)
theorem SSpec.get {r:Rx} {c:Nat} (h:SSpec r c) (A:St) {c':Int} (hc:(c:Int)=c'):∃ o,AccOk o 1 ((r.say c).map .str)∧f86 (encRx r) (.int .i64 c') A=some (.ret (accD o A.length 1 ((r.say c).map .str)),accA o A ((r.say c).map .str)):=by
 subst hc
 obtain ⟨_,h1,o,ho,rfl⟩:=h A
 exact ⟨o,ho,h1⟩
theorem get_new (S:St) (s:Slot):(S++[s])[S.length]?=some s:=by simp
theorem s86_seqs (r:Rx) (hr:r.Ok) (hs:r.size≤1000) (hk:∀ k,k ∈ r.ks→SSpec k 2) (A:St) (s0:Slot):∀ (t:List Rx) (i:Nat) (S:St) (d:D) (acc:List Str),r.ks.drop i=t→Grow A s0 1 S d (acc.map .str)→acc.length+5 * Rx.sizes t≤10000 →
  Tot (RowOut A 1 ((acc++Rx.seqs t).map .str)) (LP Tryz.prog rxA 86 [0,1,0,1,0,1,1,1,1,1,1,1,1,1,0,1,0,1,1,1] [A] (Env.mk (sp [(5,d),(59,encL 3 (r.ks.map encRx)),(0,.int .i64 (r.ks.length:Nat)),(0,.int .i64 (i:Nat))] 23) []) S):=by
 intro t
 have hl:=hr.len
 induction t with
 | nil =>
  intro i S d acc ht hg hb
  have h1:=qb1 ht
  have ho:=hg.out (plainStrs acc)
  refine qbh (q86_1 ..) ?_
  unfold n86_1;dsimp only
  (repeat' first|(with_reducible first|apply qai|apply qaa (b:=false)|apply qan)|((conv=>arg 2;arg 1;simp only [Option.map_some,qax,qa6,qa9,qa8]);(with_reducible first|apply qac|(apply qa2;omega))))
  obtain ⟨x,hx,hx2⟩:=ho
  refine ⟨x, ?_,by simpa [Rx.seqs] using hx2⟩
  conv=>lhs;simp (disch:=first|omega|assumption) only [hx]
 | cons k t ih =>
  intro i S d acc ht hg hb
  have h1:=qbz ht
  have hx:=qb6 (f:=encRx) ht 3 true .i64
  obtain ⟨o,ho,hcall⟩:=(hk k (drop_mem ht)).get (S++[.cells [.int .i64 k.op,.str k.nm,encL 3 (k.ks.map encRx)]]) (c':=2) rfl
  have hlen:=say_len k 2
  simp only [Rx.sizes] at hb
  obtain ⟨d',S',hap,hg',_⟩:=((hg.more [.cells [.int .i64 k.op,.str k.nm,encL 3 (k.ks.map encRx)]]).accA o ((k.say 2).map .str)).app0 (w:=16) (appendNew_acc (c:=(S++[Slot.cells [.int .i64 k.op,.str k.nm,encL 3 (k.ks.map encRx)]]).length) ho) (by simp only [List.length_map];omega) (by omega)
  rw [← List.map_append] at hg'
  have:=ih (i+1) S' d' (acc++k.say 2) (qbi ht) hg' (by rw [List.length_append];omega)
  have e:acc++Rx.seqs (k::t)=acc++k.say 2++Rx.seqs t:=by simp [Rx.seqs,Rx.say]
  rw [e]
  generalize accA o (S++[.cells [.int .i64 k.op,.str k.nm,encL 3 (k.ks.map encRx)]]) ((k.say 2).map .str)=S0 at *
  generalize accD o (S++[Slot.cells [.int .i64 k.op,.str k.nm,encL 3 (k.ks.map encRx)]]).length 1 ((k.say 2).map .str)=d0 at *
  refine qbh (q86_1 ..) ?_
  unfold n86_1;dsimp only
  (repeat' first|(with_reducible first|apply qa3|apply qa1|apply qaa (b:=true)|apply qap)|((conv=>arg 2;arg 1;simp (disch:=first|omega|assumption) only [qbe,qa5,qav,qbp,ofA3,qa6,qa9,qa8,qbc,qaj,qa7,ldc0,sto_sh0,stoc0,hx,rx_cell,rx_fold,qb2,rx_lay,r86,hcall,hap]);(with_reducible first|apply qac|(apply qas;omega))))
  conv=>arg 2;simp only [qa6,qa9,qa8]
  exact this
theorem s86_alts (r:Rx) (hr:r.Ok) (hs:r.size≤1000) (hk:∀ k,k ∈ r.ks→SSpec k 2) (A:St) (s0:Slot):∀ (t:List Rx) (i:Nat) (S:St) (d:D) (acc:List Str),r.ks.drop i=t→Grow A s0 1 S d (acc.map .str)→acc.length+5 * Rx.sizes t≤10000 →
  Tot (RowOut A 1 ((acc++(if i=0 then Rx.alts t else Rx.altF t)).map .str)) (LP Tryz.prog rxA 86 [0,1,0,0,1,1,1,1,1,1,1,0,1,0,1,1,1] [A] (Env.mk (sp [(5,d),(33,encL 3 (r.ks.map encRx)),(0,.int .i64 (r.ks.length:Nat)),(0,.int .i64 (i:Nat))] 49) []) S):=by
 intro t
 have hl:=hr.len
 induction t with
 | nil =>
  intro i S d acc ht hg hb
  have h1:=qb1 ht
  have ho:=hg.out (plainStrs acc)
  refine qbh (q86_0 ..) ?_
  unfold n86_0;dsimp only
  (repeat' first|(with_reducible first|apply qai|apply qaa (b:=false)|apply qan)|((conv=>arg 2;arg 1;simp only [Option.map_some,qax,qa6,qa9,qa8]);(with_reducible first|apply qac|(apply qa2;omega))))
  obtain ⟨x,hx,hx2⟩:=ho
  refine ⟨x, ?_,by split<;>simpa [Rx.alts,Rx.altF] using hx2⟩
  conv=>lhs;simp (disch:=first|omega|assumption) only [hx]
 | cons k t ih =>
  intro i S d acc ht hg hb
  have h1:=qbz ht
  have hx:=qb6 (f:=encRx) ht 3 true .i64
  have hlen:=say_len k 2
  simp only [Rx.sizes] at hb
  have hb2:=Rx.body_len k
  have hb3:=wrap_len 2 k k.body
  have hgm:=hg.more [.cells [.int .i64 k.op,.str k.nm,encL 3 (k.ks.map encRx)]]
  by_cases h0:i=0
  ·subst h0
   obtain ⟨o,ho,hcall⟩:=(hk k (drop_mem ht)).get (S++[.cells [.int .i64 k.op,.str k.nm,encL 3 (k.ks.map encRx)]]) (c':=2) rfl
   obtain ⟨d',S',hap,hg',_⟩:=(hgm.accA o ((k.say 2).map .str)).app0 (w:=16) (appendNew_acc (c:=(S++[Slot.cells [.int .i64 k.op,.str k.nm,encL 3 (k.ks.map encRx)]]).length) ho) (by simp only [List.length_map];omega) (by omega)
   rw [← List.map_append] at hg'
   have:=ih 1 S' d' (acc++k.say 2) (qbi ht) hg' (by rw [List.length_append];omega)
   have e:acc++Rx.alts (k::t)=acc++k.say 2++Rx.altF t:=by simp [Rx.alts,Rx.say]
   rw [if_pos rfl,e]
   rw [if_neg (by omega)] at this
   rw [Int.natCast_zero] at hx ⊢
   generalize accA o (S++[.cells [.int .i64 k.op,.str k.nm,encL 3 (k.ks.map encRx)]]) ((k.say 2).map .str)=S0 at *
   generalize accD o (S++[Slot.cells [.int .i64 k.op,.str k.nm,encL 3 (k.ks.map encRx)]]).length 1 ((k.say 2).map .str)=d0 at *
   refine qbh (q86_0 ..) ?_
   unfold n86_0;dsimp only
   (repeat' first|(with_reducible first|(apply tot_jn;intro hkk hke)|(apply tot_jk;· assumption)|apply qa3|apply qa1|apply qaa (b:=true)|apply qaa (b:=false)|apply qap|apply qan)|((conv=>arg 2;arg 1;simp (disch:=first|omega|assumption) only [qbe,qa5,qav,qbp,ofA3,qa6,qa9,qa8,qbc,qaj,qa7,ldc0,sto_sh0,stoc0,Int.reduceAdd,eg_0,eg_S,hx,rx_cell,rx_fold,qb2,rx_lay,r86,hcall,hap]);(with_reducible first|apply qac|(apply qas;omega)|(apply qbo;omega))))
   conv=>arg 2;simp only [qa6,qa9,qa8,eg_0,eg_S]
   exact this
  ·obtain ⟨d1,S1,hap1,hg1,hkp⟩:=hgm.app0 (y:=.sl .full 1 [.str [124]]) (new:=[.str [124]]) (w:=16) rfl (by simp;omega) (by omega)
   have hld:=fun gg m off=>load_get (hkp S.length _ (get_new S _)) (gg:=gg) (m:=m) (off:=off)
   obtain ⟨o,ho,hcall⟩:=(hk k (drop_mem ht)).get S1 (c':=2) rfl
   have e1:List.map D.str acc++[D.str [124]]=(acc++[[124]]).map .str:=by simp
   rw [e1] at hg1
   obtain ⟨d',S',hap,hg',_⟩:=(hg1.accA o ((k.say 2).map .str)).app0 (w:=16) (appendNew_acc (c:=S1.length) ho) (by simp only [List.length_map,List.length_append,List.length_cons,List.length_nil];omega) (by omega)
   rw [← List.map_append] at hg'
   have:=ih (i+1) S' d' (acc++[[124]]++k.say 2) (qbi ht) hg' (by simp only [List.length_append,List.length_cons,List.length_nil];unfold Rx.say at *;omega)
   have e:acc++Rx.altF (k::t)=acc++[[124]]++k.say 2++Rx.altF t:=by simp [Rx.altF,Rx.say]
   rw [if_neg h0,e]
   rw [if_neg (by omega)] at this
   refine qbh (q86_0 ..) ?_
   unfold n86_0;dsimp only
   (repeat' first|(with_reducible first|(apply tot_jn;intro hkk hke)|(apply tot_jk;· assumption)|apply qa3|apply qa1|apply qaa (b:=true)|apply qap)|((conv=>arg 2;arg 1;simp (disch:=first|omega|assumption) only [qbe,qa5,qav,qbp,ofA3,qa6,qa9,qa8,qbc,qaj,sto_sh0,stoc0,qb4,eg_0,eg_S,hld,hx,rx_cell,rx_fold,qb2,rx_lay,r86,hcall,hap1,hap]);(with_reducible first|apply qac|(apply qas;omega)|(apply qbx;omega))))
   conv=>arg 2;simp only [qa6,qa9,qa8,eg_0,eg_S]
   exact this
theorem s86_body (r:Rx) (hr:r.Ok) (hs:r.size≤1000) (hrt:r.right=true) (hk2:∀ k,k ∈ r.ks→SSpec k 2) (hk3:∀ k,k ∈ r.ks→SSpec k 3) (c:Nat) (hc:¬ r.binds<c) (A:St) :
  Tot (RowOut A 1 (r.body.map .str)) (f86 (encRx r) (.int .i64 (c:Nat)) A):=by
 have hl:=hr.len
 rw [Rx.right_eq,Bool.and_eq_true] at hrt
 obtain ⟨hn,_⟩:=hrt
 have hbd:=fun A=>s123 r hr A
 have hsp1:sliceParts 1 false 0 [(0,.str [46])]=some [.str [46]]:=rfl
 unfold f86 n86;dsimp only
 rcases nodeOk_cases hn with ⟨h0|h0,hnm,hks⟩|⟨h0,hnm,hks⟩|⟨h0,hnm,h2,h3⟩|⟨h0,hnm,h2,h3⟩|⟨h0,hnm,k,hks⟩
 ·rw [body_dev h0]
  have ho:=lit_out (A:=A) (s0:=.cells [.int .i64 r.op,.str r.nm,encL 3 (r.ks.map encRx)]) (L:=[]) [r.nm]
  simp only [List.map_cons,List.map_nil] at ho ⊢
  (repeat' first|(with_reducible first|apply qa3|apply qa1|apply qai|apply qaa (b:=true)|apply qaa (b:=false)|apply qap|apply qan|(apply qa2;omega)|(apply qbn;omega))|((conv=>arg 2;arg 1;simp (disch:=first|omega|assumption) only [qaf,qa4,qb3,Nat.zero_add,Nat.add_zero,ofA3,qa7,ldc0,qb4,rx_box,rx_fold,qb2,r123,hbd]);(with_reducible apply qac)))
  all_goals (conv=>arg 2;simp only [])
  all_goals exact ho
 ·rw [body_cls h0]
  have ho:=lit_out (A:=A) (s0:=.cells [.int .i64 r.op,.str r.nm,encL 3 (r.ks.map encRx)]) (L:=[]) [[36],r.nm]
  simp only [List.map_cons,List.map_nil] at ho ⊢
  (repeat' first|(with_reducible first|apply qa3|apply qa1|apply qai|apply qaa (b:=true)|apply qaa (b:=false)|apply qap|apply qan|(apply qa2;omega)|(apply qbn;omega)|(apply qbw;omega))|((conv=>arg 2;arg 1;simp (disch:=first|omega|assumption) only [qaf,qa4,qb3,Nat.zero_add,Nat.add_zero,ofA3,qa7,ldc0,sparts_str2,rx_box,rx_fold,qb2,r123,hbd]);(with_reducible apply qac)))
  all_goals (conv=>arg 2;simp only [])
  all_goals exact ho
 ·rw [body_any h0]
  have ho:=lit_out (A:=A) (s0:=.cells [.int .i64 r.op,.str r.nm,encL 3 (r.ks.map encRx)]) (L:=[]) [[46]]
  simp only [List.map_cons,List.map_nil] at ho ⊢
  (repeat' first|(with_reducible first|apply qa3|apply qa1|apply qai|apply qaa (b:=true)|apply qaa (b:=false)|apply qap|apply qan|(apply qa2;omega)|(apply qbn;omega)|(apply qbw;omega))|((conv=>arg 2;arg 1;simp (disch:=first|omega|assumption) only [qaf,qa4,Nat.add_zero,ofA3,qa7,ldc0,qb4,rx_box,rx_fold,qb2,r123,hbd]);(with_reducible apply qac)))
  all_goals (conv=>arg 2;simp only [])
  all_goals exact ho
 ·by_cases hks:r.ks=[]
  ·rw [body_emp h0 hks]
   have hl0:r.ks.length=0:=by rw [hks];rfl
   have ho:=lit_out (A:=A) (s0:=.cells [.int .i64 r.op,.str r.nm,encL 3 (r.ks.map encRx)]) (L:=[]) [[40],[41]]
   simp only [List.map_cons,List.map_nil] at ho ⊢
   (repeat' first|(with_reducible first|apply qa3|apply qa1|apply qai|apply qaa (b:=true)|apply qaa (b:=false)|apply qap|apply qan|(apply qa2;omega)|(apply qbn;omega)|(apply qbw;omega))|((conv=>arg 2;arg 1;simp (disch:=first|omega|assumption) only [qaf,qa4,qb3,Nat.zero_add,Nat.add_zero,ofA3,qa0,qa7,ldc0,sparts_str2,List.length_map,rx_box,rx_fold,qb2,r123,hbd]);(with_reducible apply qac)))
   all_goals (conv=>arg 2;simp only [])
   all_goals exact ho
  ·rw [body_seq h0 hks]
   have hl0:0<r.ks.length:=List.length_pos_iff.2 hks
   have hsz:=Rx.size_eq r
   have hlo:=s86_seqs r hr hs hk2 A _ r.ks 0 _ _ [] rfl (Grow.nil A (.cells [.int .i64 r.op,.str r.nm,encL 3 (r.ks.map encRx)]) 1 []) (by simp;omega)
   (repeat' first|(with_reducible first|apply qa3|apply qa1|apply qaa (b:=true)|apply qaa (b:=false)|apply qap|apply qan|(apply qa2;omega)|(apply qbn;omega)|(apply qbw;omega))|((conv=>arg 2;arg 1;simp (disch:=first|omega|assumption) only [qaf,qa4,qb3,Nat.zero_add,Nat.add_zero,ofA3,qa0,qa7,ldc0,List.length_map,rx_box,rx_fold,qb2,r123,hbd]);(with_reducible apply qac)))
   all_goals (conv=>arg 2;simp only [])
   all_goals exact hlo
 ·rw [body_alt h0]
  have hks:r.ks≠[]:=by intro e;rw [e] at h2;simp at h2
  have hl0:0<r.ks.length:=List.length_pos_iff.2 hks
  have hsz:=Rx.size_eq r
  have hlo:=s86_alts r hr hs hk2 A _ r.ks 0 _ _ [] rfl (Grow.nil A (.cells [.int .i64 r.op,.str r.nm,encL 3 (r.ks.map encRx)]) 1 []) (by simp;omega)
  (repeat' first|(with_reducible first|apply qa3|apply qa1|apply qaa (b:=true)|apply qaa (b:=false)|apply qap|apply qan|(apply qa2;omega)|(apply qbn;omega)|(apply qbw;omega))|((conv=>arg 2;arg 1;simp (disch:=first|omega|assumption) only [qaf,qa4,qb3,Nat.zero_add,Nat.add_zero,ofA3,qa0,qa7,ldc0,List.length_map,rx_box,rx_fold,qb2,r123,hbd]);(with_reducible apply qac)))
  all_goals (conv=>arg 2;simp only [])
  all_goals exact hlo
 ·rw [body_rep h0 hks]
  have hne:r.ks≠[]:=by rw [hks];simp
  have hkm:k ∈ r.ks:=by rw [hks];simp
  have hlen:=say_len k 3
  have hkz:=kid_size hkm
  have hx:=qb6 (f:=encRx) (l:=r.ks) (i:=0) (x:=k) (t:=[]) (by rw [hks];rfl) 3 true .i64
  rw [Int.natCast_zero] at hx
  have hm1:sliceParts 1 false 0 [(0,.str [42])]=some [.str [42]]:=rfl
  have hm2:sliceParts 1 false 0 [(0,.str [43])]=some [.str [43]]:=rfl
  have hm3:sliceParts 1 false 0 [(0,.str [63])]=some [.str [63]]:=rfl
  obtain ⟨o,ho,hcall⟩:=(hk3 k hkm).get (A++[.cells [.int .i64 r.op,.str r.nm,encL 3 (r.ks.map encRx)]]) (c':=3) rfl
  have hg:=Grow.acc (A:=A) (s0:=.cells [.int .i64 r.op,.str r.nm,encL 3 (r.ks.map encRx)]) (L:=[]) ho
  have hbx:=fun gg m off=>hg.box (gg:=gg) (m:=m) (off:=off)
  obtain ⟨d',S',hap,hg',_⟩:=hg.app0 (y:=.sl .full 1 [.str (markOf r.op)]) (new:=[.str (markOf r.op)]) (w:=16) rfl (by simp only [List.length_map,List.length_cons,List.length_nil];omega) (by omega)
  have e:List.map D.str (k.say 3++[markOf r.op])=List.map D.str (k.say 3)++[D.str (markOf r.op)]:=by simp
  have hout:=hg'.out (by rw [← e];exact plainStrs _)
  rw [← e] at hout
  generalize k.say 3=ws at *
  generalize accA o (A++[.cells [.int .i64 r.op,.str r.nm,encL 3 (r.ks.map encRx)]]) (ws.map .str)=S1 at *
  generalize accD o (A++[Slot.cells [.int .i64 r.op,.str r.nm,encL 3 (r.ks.map encRx)]]).length 1 (ws.map .str)=d1 at *
  rcases h0 with h0|h0|h0
  ·have em:markOf r.op=[42]:=by rw [h0];rfl
   rw [em] at hap hout ⊢
   (repeat' first|(with_reducible first|(apply tot_jn;intro hkk hke)|(apply tot_jk;· assumption)|apply qa3|apply qa1|apply qai|apply qaa (b:=false)|apply qan|(apply qa2;omega)|(apply qbw;omega))|((conv=>arg 2;arg 1;simp (disch:=first|omega|assumption) only [Option.map_some,qax,qaf,qav,qa4,qb3,Nat.zero_add,Nat.add_zero,ofA3,qbc,qaj,qa7,ldc0,qb4,eg_0,eg_S,rx_box,rx_cell,hx,rx_fold,qb2,r123,hbd,r86,hcall,hap]);(with_reducible apply qac)))
   all_goals (conv=>arg 2;simp only [])
   all_goals exact hout
  ·have em:markOf r.op=[43]:=by rw [h0];rfl
   rw [em] at hap hout ⊢
   (repeat' first|(with_reducible first|(apply tot_jn;intro hkk hke)|(apply tot_jk;· assumption)|apply qa3|apply qa1|apply qai|apply qaa (b:=true)|apply qaa (b:=false)|apply qap|apply qan|(apply qa2;omega)|(apply qbn;omega)|(apply qbw;omega))|((conv=>arg 2;arg 1;simp (disch:=first|omega|assumption) only [Option.map_some,qax,qaf,qav,qa4,qb3,Nat.zero_add,Nat.add_zero,ofA3,qbc,qaj,qa7,ldc0,qb4,eg_0,eg_S,rx_box,rx_cell,hx,rx_fold,qb2,r123,hbd,r86,hcall,hap]);(with_reducible apply qac)))
   all_goals (conv=>arg 2;simp only [])
   all_goals exact hout
  ·have em:markOf r.op=[63]:=by rw [h0];rfl
   rw [em] at hap hout ⊢
   (repeat' first|(with_reducible first|(apply tot_jn;intro hkk hke)|(apply tot_jk;· assumption)|apply qa3|apply qa1|apply qai|apply qaa (b:=true)|apply qaa (b:=false)|apply qap|apply qan|(apply qa2;omega)|(apply qbn;omega)|(apply qbw;omega))|((conv=>arg 2;arg 1;simp (disch:=first|omega|assumption) only [Option.map_some,qax,qaf,qav,qa4,qb3,Nat.zero_add,Nat.add_zero,ofA3,qbc,qaj,qa7,ldc0,qb4,eg_0,eg_S,rx_box,rx_cell,hx,rx_fold,qb2,r123,hbd,r86,hcall,hap]);(with_reducible apply qac)))
   all_goals (conv=>arg 2;simp only [])
   all_goals exact hout
theorem s86_wrap (r:Rx) (hr:r.Ok) (hs:r.size≤1000) (hb:SSpec r 1) (c:Nat) (hc:r.binds<c) (A:St) :
  Tot (RowOut A 1 (([[40]]++r.body++[[41]]).map .str)) (f86 (encRx r) (.int .i64 (c:Nat)) A):=by
 have hl:=hr.len
 have hlen:=say_len r 1
 have hbd:=fun A=>s123 r hr A
 have hsay:r.say 1=r.body:=say_bare (by unfold Rx.binds;split<;>first|omega|(split<;>omega))
 obtain ⟨o,ho,hcall⟩:=hb.get (A++[.cells [.int .i64 r.op,.str r.nm,encL 3 (r.ks.map encRx)]]) (c':=1) rfl
 rw [hsay] at hlen ho hcall
 have hg:=Grow.acc (A:=A) (s0:=.cells [.int .i64 r.op,.str r.nm,encL 3 (r.ks.map encRx)]) (L:=[]) ho
 have hsp0:sliceParts 1 false 0 [(0,.str [40])]=some [.str [40]]:=rfl
 have hsp1:sliceParts 1 false 0 [(0,.str [41])]=some [.str [41]]:=rfl
 have hsp3:sliceParts 1 false 0 [(0,.sl .full 1 [.str [40]]),(1,accD o (A++[Slot.cells [.int .i64 r.op,.str r.nm,encL 3 (r.ks.map encRx)]]).length 1 (r.body.map .str)),(2,.sl .full 1 [.str [41]])] =
   some [.sl .full 1 [.str [40]],accD o (A++[Slot.cells [.int .i64 r.op,.str r.nm,encL 3 (r.ks.map encRx)]]).length 1 (r.body.map .str),.sl .full 1 [.str [41]]]:=by cases o<;>rfl
 have hcd:=acc_canon (c:=(A++[Slot.cells [.int .i64 r.op,.str r.nm,encL 3 (r.ks.map encRx)]]).length) ho (plainStrs r.body)
 obtain ⟨L,hL⟩:=hg.sto
 generalize accA o (A++[.cells [.int .i64 r.op,.str r.nm,encL 3 (r.ks.map encRx)]]) (r.body.map .str)=S0 at *
 generalize accD o (A++[Slot.cells [.int .i64 r.op,.str r.nm,encL 3 (r.ks.map encRx)]]).length 1 (r.body.map .str)=d0 at *
 have hcn:(D.sl .full 1 [.sl .full 1 [.str [40]],d0,.sl .full 1 [.str [41]]]).canon=encL 1 ([[[40]],r.body,[[41]]].map sRow):=by
  simp only [D.canon,D.canonL,hcd]
  rfl
 have hfl:([[[40]],r.body,[[41]]]:List (List Str)).flatten=[[40]]++r.body++[[41]]:=by simp
 obtain ⟨b',hb',hcat⟩:=s54 S0 [[[40]],r.body,[[41]]] (by rw [hfl];simp only [List.length_append,List.length_cons,List.length_nil];omega) (by simp)
 rw [hfl] at hb' hcat
 have hg2:=Grow.acc (A:=A) (s0:=.cells [.int .i64 r.op,.str r.nm,encL 3 (r.ks.map encRx)]) (L:=L) hb'
 rw [← hL] at hg2
 have hout:=hg2.out (plainStrs _)
 unfold f86 n86;dsimp only
 (repeat' first|(with_reducible first|apply qa3|apply qa1|apply qai|apply qaa (b:=true)|apply qap|(apply qas;omega))|((conv=>arg 2;arg 1;simp (disch:=first|omega|assumption) only [ofA3,qaj,qa7,ldc0,qb4,rx_box,rx_fold,qb2,r123,hbd,r86,hcall,hsp3,r54,hcn,hcat]);(with_reducible apply qac)))
 all_goals (conv=>arg 2;simp only [])
 all_goals exact hout
theorem s86:∀ (r:Rx) (hr:r.Ok) (hs:r.size≤1000) (hrt:r.right=true) (c:Nat),SSpec r c:=by
 refine Rx.ind fun r ih hr hs hrt c A=>?_
 have hkr:∀ k,k ∈ r.ks→k.right=true:=by
  have:=hrt
  rw [Rx.right_eq,Bool.and_eq_true] at this
  exact rights_mem this.2
 have hkk:∀ c k,k ∈ r.ks→SSpec k c:=fun c k hk=>ih k hk (hr.kid hk) (by have:=kid_size hk;omega) (hkr k hk) c
 have hbody:=s86_body r hr hs hrt (hkk 2) (hkk 3)
 have hb1:¬ r.binds<1:=by unfold Rx.binds;split<;>first|omega|(split<;>omega)
 by_cases h:r.binds<c
 ·rw [say_wrap h]
  exact s86_wrap r hr hs (fun A=>by rw [say_bare hb1];exact hbody 1 hb1 A) c h A
 ·rw [say_bare h]
  exact hbody c h A
end Go.Vm.Rx

/- What both texts print;law 6. -/
namespace Go.Vm.Rx
open Go Go.Proofs P
set_option maxRecDepth 10000
set_option maxHeartbeats 4000000
def printD (r:Rx):D:=if r.check=0 then .tup [.str (sayW r.body),.int .i64 0] else .tup [.str [],.int .i64 r.check]
theorem binds_1 (r:Rx):¬ r.binds<1:=by unfold Rx.binds;split<;>first|omega|(split<;>omega)
theorem body_rx {r:Rx} (h:r.right=true) (hs:r.size≤1000):r.body.length≤1040000∧∀ w,w ∈ r.body→RxWord w:=by
 have:=Rx.body_len r
 exact ⟨by omega,Rx.body_words r h⟩
theorem s44 (r:Rx) (hr:r.Ok) (A:St):f44 (encRx r) A=some (.ret (printD r),A):=by
 have hck:=fun A=>s37 r hr A
 unfold f44 n44 printD;dsimp only
 refine qbb ?_
 by_cases h:r.check=0
 ·rw [if_pos h]
  rw [h] at hck
  obtain ⟨h1,h2,h3⟩:=check_0 h
  obtain ⟨g1,g2⟩:=body_rx h3 h1
  obtain ⟨o,ho,hcall⟩:=(s86 r hr h1 h3 1).get (A++[.cells [.int .i64 r.op,.str r.nm,encL 3 (r.ks.map encRx)]]) (c':=1) rfl
  rw [say_bare (binds_1 r)] at ho hcall
  have hcn:=acc_canon (c:=(A++[Slot.cells [.int .i64 r.op,.str r.nm,encL 3 (r.ks.map encRx)]]).length) ho (plainStrs r.body)
  have hsay:=fun A=>s45 A r.body g1 g2
  have htk:(accA o (A++[.cells [.int .i64 r.op,.str r.nm,encL 3 (r.ks.map encRx)]]) (r.body.map .str)).take A.length=A:=accL_take
  have hkp:Kept A (accA o (A++[.cells [.int .i64 r.op,.str r.nm,encL 3 (r.ks.map encRx)]]) (r.body.map .str))↔True:=accL_Kept
  generalize accA o (A++[.cells [.int .i64 r.op,.str r.nm,encL 3 (r.ks.map encRx)]]) (r.body.map .str)=S0 at *
  generalize accD o (A++[Slot.cells [.int .i64 r.op,.str r.nm,encL 3 (r.ks.map encRx)]]).length 1 (r.body.map .str)=d0 at *
  (repeat' first|(with_reducible first|apply qa3|apply qa1|apply qai|apply qaa (b:=false)|apply qan|(apply tot_neq_t;omega))|((conv=>arg 2;arg 1;simp (disch:=first|omega|assumption) only [ofA3,qaj,qa7,ldc0,ext0,extS,rx_box,rx_fold,qb2,r37,hck,r86,hcall,r45,hcn,hsay]);(with_reducible apply qac)))
  ((try conv=>arg 2;simp (disch:=first|omega|assumption) only [qae,qao,shut_strD,shut_tup,qby,qbv,qad,qaj,qat,qb7,qbu,qbm,qab,qah,htk,hkp]);refine qal ?_)
  rfl
 ·rw [if_neg h]
  (repeat' first|(with_reducible first|apply qa3|apply qa1|apply qai|apply qaa (b:=true)|apply qap|(apply tot_neq_f;omega))|((conv=>arg 2;arg 1;simp (disch:=first|omega|assumption) only [ofA3,qa7,ldc0,rx_box,rx_fold,qb2,r37,hck]);(with_reducible apply qac)))
  ((try conv=>arg 2;simp (disch:=first|omega|assumption) only [qae,qao,shut_strD,shut_tup,qby,qbv,qam,qad,qaj,qat,qb7,qbu,qbm,qab,qah,List.take_left']);refine qal ?_)
  rfl
theorem s91 (r:Rx) (hr:r.Ok) (A:St):f91 (encRx r) A=some (.ret (printD r),A):=by
 have hck:=fun A=>s51 r hr A
 unfold f91 n91 printD;dsimp only
 refine qbb ?_
 by_cases h:r.check=0
 ·rw [if_pos h]
  rw [h] at hck
  obtain ⟨h1,h2,h3⟩:=check_0 h
  obtain ⟨g1,g2⟩:=body_rx h3 h1
  obtain ⟨o,ho,hcall⟩:=(s125 r hr h1 h3).1.get (A++[.cells [.int .i64 r.op,.str r.nm,encL 3 (r.ks.map encRx)]])
  rw [say_bare (binds_1 r)] at ho hcall
  have hcn:=acc_canon (c:=(A++[Slot.cells [.int .i64 r.op,.str r.nm,encL 3 (r.ks.map encRx)]]).length) ho (plainStrs r.body)
  have hsay:=fun A=>s46 A r.body g1 g2
  have htk:(accA o (A++[.cells [.int .i64 r.op,.str r.nm,encL 3 (r.ks.map encRx)]]) (r.body.map .str)).take A.length=A:=accL_take
  have hkp:Kept A (accA o (A++[.cells [.int .i64 r.op,.str r.nm,encL 3 (r.ks.map encRx)]]) (r.body.map .str))↔True:=accL_Kept
  generalize accA o (A++[.cells [.int .i64 r.op,.str r.nm,encL 3 (r.ks.map encRx)]]) (r.body.map .str)=S0 at *
  generalize accD o (A++[Slot.cells [.int .i64 r.op,.str r.nm,encL 3 (r.ks.map encRx)]]).length 1 (r.body.map .str)=d0 at *
  (repeat' first|(with_reducible first|apply qa3|apply qa1|apply qai|apply qaa (b:=false)|apply qan|(apply tot_neq_t;omega))|((conv=>arg 2;arg 1;simp (disch:=first|omega|assumption) only [ofA3,qaj,qa7,ldc0,ext0,extS,rx_box,rx_fold,qb2,r51,hck,r125,hcall,r46,hcn,hsay]);(with_reducible apply qac)))
  ((try conv=>arg 2;simp (disch:=first|omega|assumption) only [qae,qao,shut_strD,shut_tup,qby,qbv,qad,qaj,qat,qb7,qbu,qbm,qab,qah,htk,hkp]);refine qal ?_)
  rfl
 ·rw [if_neg h]
  (repeat' first|(with_reducible first|apply qa3|apply qa1|apply qai|apply qaa (b:=true)|apply qap|(apply tot_neq_f;omega))|((conv=>arg 2;arg 1;simp (disch:=first|omega|assumption) only [ofA3,qa7,ldc0,rx_box,rx_fold,qb2,r51,hck]);(with_reducible apply qac)))
  ((try conv=>arg 2;simp (disch:=first|omega|assumption) only [qae,qao,shut_strD,shut_tup,qby,qbv,qam,qad,qaj,qat,qb7,qbu,qbm,qab,qah,List.take_left']);refine qal ?_)
  rfl
theorem print_0 {r:Rx} (h:r.check=0):printD r=.tup [.str (sayW r.body),.int .i64 0]:=by unfold printD;rw [if_pos h]
end Go.Vm.Rx

/- The words of an invariant: the reference's text. -/
namespace Go.Vm.Rx
open Go Go.Proofs P
set_option maxRecDepth 10000
set_option maxHeartbeats 4000000
def numT (n:Int):Str:=Lib.decDigits n.toNat
theorem itoa_run {n:Int} (h:0≤n) (h2:n<100) (A:St):Run Tryz.prog rxA 42 [.int .i64 n] A=some (.ret (.str (numT n)),A):=by
 rw [Run_ext _ _ (by decide) rfl]
 show (if 0≤n∧n<100 then some (Res.ret (D.str (Lib.decDigits n.toNat)),A) else none)=_
 rw [if_pos ⟨h,h2⟩];rfl
def midW (v:Iv):List Str:=[wHops,numT v.hops,wCount,signT v.cmp,numT v.cnt,wPath]
def headW (v:Iv):List Str:=[wInvariant,v.nm,wPackets,v.pk,wFrom]
def ivBody (v:Iv):List Str:=headW v++joinT true v.ing++midW v++v.path.body
def ownS (A:St) (ws:List Str):D:=.sl (.own (A.length+1) 0) 1 (ws.map .str)
theorem own_app (A:St) (s0:Slot) (ws new:List Str) {y:D} (L:St) (hy:appendNew 1 y=some (new.map .str)) (hl:ws.length+new.length≤1000000) :
  appendO 1 16 (ownS A ws) y (A++s0::.tok ws.length::L)=some (ownS A (ws++new),A++s0::.tok (ws++new).length::L):=by
 unfold ownS
 rw [append_own (s0:=0) hy (by simp) (by simp [roomOk];omega) (by simp;omega)]
 simp
theorem own_lit (w:Str):appendNew 1 (.sl .full 1 [.str w])=some ([w].map .str):=rfl
theorem own_shut (A:St) (ws:List Str) {n:Nat} (h:A.length+1<n):(ownS A ws).shut n=ownS A ws:=by
 unfold ownS
 rw [shut_sl,own_own _ h,PlainL.shut (plainStr ws)]
theorem own_fin (A:St) (ws:List Str):((ownS A ws).shut A.length).canon=encL 1 (ws.map .str):=by
 unfold ownS
 rw [shut_sl,own_new _ (by omega),PlainL.shut (plainStr ws)]
 exact canon_sl (plainStr ws) _ _
theorem own_kept (A:St) (s0:Slot) (m n:Nat):Kept (A++[s0,.tok m]) (A++[s0,.tok n])↔True:=iff_true_intro (Kept_tail (by simp) fun i hi=>by
 match i,hi with
 | 0,_=>exact .inl rfl
 | 1,_=>exact .inr ⟨_,rfl,rfl⟩
 | i+2,h=>simp only [List.length_cons,List.length_nil] at h;omega)
theorem own_take (A:St) (s0 s1:Slot):(A++[s0,s1]).take (A.length+2)=A++[s0,s1]:=List.take_of_length_le (by simp)
section
variable (A:St) (s0:Slot) (ws:List Word) (hl:ws.length≤10000)
include hl
theorem s47_end (acc:List Str):LP Tryz.prog rxA 47 [0,1,0,1,1,1,1,1,1] [A] (Env.mk (sp [(3,ownS A acc),(3,encL 1 ([ws].map encRow)),(3,.int .i64 1)] 81) []) (A++[s0,.tok acc.length])=some (.ret (encL 1 (acc.map .str)),A):=by
 have hfi:=own_fin A acc
 refine qbb (qbh (q47_1 ..) ?_)
 unfold n47_1;dsimp only
 (repeat' first|(with_reducible first|apply qai|apply qaa (b:=false)|apply qan)|((conv=>arg 2;arg 1;simp only [Option.map_some,qax,Nat.zero_add,List.length_cons,List.length_nil,qa6,qa9,qa8,qa0,List.length_map]);(with_reducible first|apply qac|(apply qa2;omega))))
 ((try conv=>arg 2;simp (disch:=first|omega|assumption) only [qae,qam,qad,qab,qah,List.take_left',hfi]);refine qal ?_)
 rfl
theorem s47_in (n0:Nat):∀ (t:List Word) (k:Nat) (acc:List Str),ws.drop k=t→acc.length+t.length≤900000 →
  LP Tryz.prog rxA 47 [0,1,0,0,1,0,0,1,0,1,1,1,1,1,1] [(A++[s0,.tok n0]),A] (Env.mk (sp [(3,ownS A acc),(3,encL 1 ([ws].map encRow)),(3,.int .i64 0),(0,.int .i64 (k:Nat))] 80) []) (A++[s0,.tok acc.length])=some (.ret (encL 1 ((acc++t.map Word.t).map .str)),A):=by
 have hix:indexAddrO 1 false (encL 1 ([ws].map encRow)) (.int .i64 0)=some (.peek [encRow ws]):=rfl
 have hrw:ofCells false [encRow ws] 0 1=some (encL 3 (ws.map encW)):=rfl
 have hrs:∀ n,(encL 1 ([ws].map encRow)).shut n=encL 1 ([ws].map encRow):=fun n=>(encL_plain (plainRows [ws]) 1).shut n
 intro t
 induction t with
 | nil =>
  intro k acc ht hb
  have h1:=qb1 ht
  have hos:=own_shut A acc (n:=A.length+2) (by omega)
  have hkp:=fun n=>own_kept A s0 n0 n
  have htk:=fun s1=>own_take A s0 s1
  have hend:=s47_end A s0 ws hl acc
  refine qbb (qbh (q47_2 ..) ?_)
  unfold n47_2;dsimp only
  (repeat' first|(with_reducible first|apply qa3|apply tp_gk|apply qaa (b:=false)|apply qan)|((conv=>arg 2;arg 1;simp (disch:=first|omega|assumption) only [qbe,qa5,qav,qa6,qa9,qa8,qa0,List.length_map,Int.reduceAdd,hix,hrw,hkp]);(with_reducible first|apply qac|apply qbg|(apply qa2;omega))))
  refine qay ?_
  conv=>lhs;simp (disch:=first|omega|assumption) only [qao,qbr,List.map_nil,Nat.zero_add,List.length_append,List.length_cons,List.length_nil,qa6,qa9,qa8,Nat.reduceAdd,hos,hrs,htk]
  rw [List.map_nil,List.append_nil]
  exact hend
 | cons w t ih =>
  intro k acc ht hb
  have h1:=qbz ht
  simp only [List.length_cons] at hb
  have hx:=qb6 (f:=encW) ht 3 true .i64
  have hwt:ofCells false (cellsW w) 0 1=some (.str w.t):=rfl
  have hos:=own_shut A (acc++[w.t]) (n:=A.length+2) (by omega)
  have hap:=own_app A s0 acc [w.t] [] (own_lit w.t) (by simp;omega)
  have hkp:=fun m n=>own_kept A s0 m n
  have htk:=fun s1=>own_take A s0 s1
  have hih:=ih (k+1) (acc++[w.t]) (qbi ht) (by simp;omega)
  have e:acc++(w::t).map Word.t=acc++[w.t]++t.map Word.t:=by simp
  rw [e]
  simp only [List.length_append,List.length_cons,List.length_nil,Nat.zero_add] at hap hih
  refine qbb (qbh (q47_2 ..) ?_)
  unfold n47_2;dsimp only
  (repeat' first|(with_reducible first|apply qa3|apply tp_gk|apply qaa (b:=true)|apply qap)|((conv=>arg 2;arg 1;simp (disch:=first|omega|assumption) only [qbe,qa5,qbt,qav,List.drop_zero,qa6,qa9,qa8,qbc,qa0,qb4,List.length_map,hix,hrw,hx,cellW,hwt,hap,hkp]);(with_reducible first|apply qac|apply qbg|(apply qas;omega))))
  refine qay ?_
  conv=>lhs;simp (disch:=first|omega|assumption) only [qao,qbr,List.map_nil,Nat.zero_add,List.length_append,List.length_cons,List.length_nil,qa6,qa9,qa8,Nat.reduceAdd,hos,hrs,htk]
  exact hih
theorem s47_row (acc:List Str) (hb:acc.length+ws.length≤900000):LP Tryz.prog rxA 47 [0,1,0,1,1,1,1,1,1] [A] (Env.mk (sp [(3,ownS A acc),(3,encL 1 ([ws].map encRow)),(3,.int .i64 0)] 81) []) (A++[s0,.tok acc.length])=some (.ret (encL 1 ((acc++ws.map Word.t).map .str)),A):=by
 have hin:=s47_in A s0 ws hl acc.length ws 0 acc rfl hb
 refine qbb (qbh (q47_1 ..) ?_)
 unfold n47_1;dsimp only
 (repeat' first|(with_reducible first|apply qaa (b:=true)|apply qap)|((conv=>arg 2;arg 1;simp only [Nat.zero_add,List.length_cons,List.length_nil,qa6,qa9,qa8,qa0,List.length_map]);(with_reducible first|apply qac|(apply qas;omega))))
 (refine qay ?_;(conv=>lhs;simp only [qa6,qa9,qa8]);exact hin)
end
end Go.Vm.Rx

/- The words of an invariant: all of the reference's text. -/
namespace Go.Vm.Rx
open Go Go.Proofs P
set_option maxRecDepth 10000
set_option maxHeartbeats 4000000
structure IvGood (v:Iv):Prop where
 well:IvWell v
 len:v.ing.length≤256
 hops:0≤v.hops∧v.hops≤64
 cmp:1≤v.cmp∧v.cmp≤3
 cnt:0≤v.cnt∧v.cnt≤62
 path:v.path.check=0
theorem ivGood {v:Iv} (hv:IvWell v) (h:ivForm v=0):IvGood v∧ivRight v=true:=by
 unfold ivForm at h
 split at h
 ·rename_i hr
  have hr':=hr
  unfold ivRight at hr'
  simp only [Bool.and_eq_true,decide_eq_true_eq] at hr'
  obtain ⟨⟨⟨⟨⟨⟨h1,h2⟩,h3⟩,h4⟩,h5⟩,h6⟩,h7⟩:=hr'
  exact ⟨⟨hv,h3.2,h4,h5,h6,h⟩,hr⟩
 ·cases h
theorem sign_idx {c:Int} (h:1≤c∧c≤3):indexAddrO 1 false (encL 1 [.str [61,61],.str [60,61],.str [62,61]]) (.int .i64 (c - 1))=some (.peek [.str (signT c)]):=by
 rcases (by omega:c=1∨c=2∨c=3) with rfl|rfl|rfl<;>rfl
theorem path_row {r:Rx} (h:r.check=0):∃ ws,textP (sayW r.body) (.ok [ws])∧ws.map Word.t=r.body∧(sayW r.body).length≤1048576∧ws.length≤5000:=by
 obtain ⟨h1,h2,h3⟩:=check_0 h
 have hwd:=Rx.body_words r h3
 have hne:r.body≠[]:=by
  obtain ⟨w,ws,e,_⟩:=body_head r h3
  rw [e];simp
 obtain ⟨ws,h4,h5⟩:=textP_say (fun x hx=>(hwd x hx).1) hne
 have hl:=sayW_len hwd
 have hb:=Rx.body_len r
 have hln:ws.length=r.body.length:=by rw [← h5];simp
 exact ⟨ws,h4,h5,by omega,by omega⟩
theorem s47_loop (v:Iv) (hv:IvGood v) (A:St):∀ (t:List Str) (i:Nat) (acc:List Str),v.ing.drop i=t→acc.length+2 * t.length≤10000 →
  LP Tryz.prog rxA 47 [0,1,0,1,1] [A] (Env.mk (sp [(1,.ref A.length 0),(1,ownS A acc),(0,.int .i64 (i:Nat))] 88) []) (A++[.cells (ivC v),.tok acc.length])=some (.ret (encL 1 ((acc++joinT (decide (i=0)) t++midW v++v.path.body).map .str)),A):=by
 have hlen:=hv.len
 have hh:=hv.hops;have hc:=hv.cnt
 have hrs:(D.ref A.length 0).shut (A.length+2)=.ref A.length 0:=shut_ref _ (by omega)
 intro t
 induction t with
 | nil =>
  intro i acc ht hb
  have h1:=qb1 ht
  obtain ⟨ws,hx,hwt,hsl,hwl⟩:=path_row hv.path
  have hi1:=fun A=>itoa_run (n:=v.hops) (by omega) (by omega) A
  have hi2:=fun A=>itoa_run (n:=v.cnt) (by omega) (by omega) A
  have hsg:=fun A=>s90 A
  have hsi:=sign_idx hv.cmp
  have hpr:=fun A=>s91 v.path hv.well.ok.1 A
  rw [print_0 hv.path] at hpr
  have hli:=fun A=>s29 (sayW v.path.body) (by omega) _ hx A
  simp only [linesRes,List.nil_append] at hli
  have hcm:=hv.cmp
  have hspt:sliceParts 1 false 0 [(0,.str [104,111,112,115]),(1,.str (numT v.hops)),(2,.str [99,111,117,110,116]),(3,.str (signT v.cmp)),(4,.str (numT v.cnt)),(5,.str [112,97,116,104])]=some ((midW v).map .str):=rfl
  have hap:=own_app A (.cells (ivC v)) acc (midW v) (y:=.sl .full 1 ((midW v).map .str)) [] (by simp [appendNew,esOk]) (by simp only [midW,List.length_cons,List.length_nil];simp only [List.length_nil] at hb;omega)
  have hrow:=s47_row A (.cells (ivC v)) ws (by omega) (acc++midW v) (by simp only [midW,List.length_append,List.length_cons,List.length_nil];simp only [List.length_nil] at hb;omega)
  rw [hwt] at hrow
  have e:acc++joinT (decide (i=0)) []++midW v++v.path.body=acc++midW v++v.path.body:=by simp [joinT]
  rw [e]
  generalize hmid:midW v=mid at *
  simp only [List.length_append] at hap hrow
  refine qbb (qbh (q47_0 ..) ?_)
  unfold n47_0;dsimp only
  (repeat' first|(with_reducible first|apply qa3|apply qa1|apply tp_gs0|apply tp_gs1|apply qaa (b:=false)|apply qan)|((conv=>arg 2;arg 1;simp (disch:=first|omega|assumption) only [qb9,qa5,qaf,qav,qa4,Nat.zero_add,sameAd_refl,qa6,qa9,qa8,qat,qa0,qa7,ldc0,List.length_map,ext0,extS,ivc2,ivc3,ivc4,ivc5,ivc6,hi1,hi2,r90,hsg,hsi,hspt,hap,qb2,r91,hpr,r29,hli]);(with_reducible first|apply qac|apply qbg|(apply qa2;omega))))
  (refine qay ?_;(conv=>lhs;simp only []);exact hrow)
 | cons x t ih =>
  intro i acc ht hb
  have h1:=qbz ht
  simp only [List.length_cons] at hb
  have hx:=qb6 (f:=D.str) ht 1 false .i64
  have hkp:=fun m n=>own_kept A (.cells (ivC v)) m n
  have htk:=fun s1=>own_take A (.cells (ivC v)) s1
  by_cases h0:i=0
  ·subst h0
   have hap:=own_app A (.cells (ivC v)) acc [x] [] (own_lit x) (by simp;omega)
   have hos:=own_shut A (acc++[x]) (n:=A.length+2) (by omega)
   have hih:=ih 1 (acc++[x]) (qbi ht) (by simp;omega)
   have e:acc++joinT (decide (0=0)) (x::t)++midW v++v.path.body=acc++[x]++joinT (decide (1=0)) t++midW v++v.path.body:=by simp [joinT]
   rw [e]
   simp only [List.length_append,List.length_cons,List.length_nil,Nat.zero_add] at hap hih
   refine qbb (qbh (q47_0 ..) ?_)
   unfold n47_0;dsimp only
   (repeat' first|(with_reducible first|(apply tot_jn;intro hkk hke)|(apply tot_jk;· assumption)|apply qa3|apply tp_gk|apply qaa (b:=true)|apply qaa (b:=false)|apply qap|apply qan)|((conv=>arg 2;arg 1;simp (disch:=first|omega|assumption) only [qbe,qa5,qaf,qav,qa4,Nat.zero_add,qa6,qa9,qa8,qbc,qa0,cell_str,qa7,ldc0,qb4,List.length_map,eg_0,eg_S,ivc2,hx,hap,hkp]);(with_reducible first|apply qac|apply qbg|(apply qas;omega)|(apply qbo;omega))))
   refine qay ?_
   conv=>lhs;simp (disch:=first|omega|assumption) only [qao,qbr,List.map_nil,Nat.zero_add,List.length_append,List.length_cons,List.length_nil,qa6,qa9,qa8,Nat.reduceAdd,eg_0,eg_S,hos,hrs,htk]
   exact hih
  ·have hap:=fun L=>own_app A (.cells (ivC v)) acc [[44]] L (own_lit [44]) (by simp;omega)
   have hap2:=fun L=>own_app A (.cells (ivC v)) (acc++[[44]]) [x] L (own_lit x) (by simp;omega)
   have hos:=own_shut A (acc++[[44]]++[x]) (n:=A.length+2) (by omega)
   have hih:=ih (i+1) (acc++[[44]]++[x]) (qbi ht) (by simp;omega)
   have e:acc++joinT (decide (i=0)) (x::t)++midW v++v.path.body=acc++[[44]]++[x]++joinT (decide (i+1=0)) t++midW v++v.path.body:=by simp [joinT,h0]
   rw [e]
   simp only [List.length_append,List.length_cons,List.length_nil,Nat.zero_add] at hap hap2 hih
   refine qbb (qbh (q47_0 ..) ?_)
   unfold n47_0;dsimp only
   (repeat' first|(with_reducible first|(apply tot_jn;intro hkk hke)|(apply tot_jk;· assumption)|apply qa3|apply tp_gk|apply qaa (b:=true)|apply qap)|((conv=>arg 2;arg 1;simp (disch:=first|omega|assumption) only [qbe,qa5,qaf,qav,qa4,Nat.zero_add,qa6,qa9,qa8,qbc,qa0,cell_str,qa7,ldc0,qb4,List.length_map,eg_0,eg_S,ivc2,hx,hap,hap2,hkp]);(with_reducible first|apply qac|apply qbg|(apply qas;omega)|(apply qbx;omega))))
   refine qay ?_
   conv=>lhs;simp (disch:=first|omega|assumption) only [qao,qbr,List.map_nil,Nat.zero_add,List.length_append,List.length_cons,List.length_nil,qa6,qa9,qa8,Nat.reduceAdd,eg_0,eg_S,hos,hrs,htk]
   exact hih
theorem s47 (v:Iv) (hv:IvGood v) (A:St):f47 (encIv v) A=some (.ret (encL 1 ((ivBody v).map .str)),A):=by
 have hlen:=hv.len
 have hlo:=s47_loop v hv A v.ing 0 (headW v) rfl (by simp only [headW,List.length_cons,List.length_nil];omega)
 have hspt:sliceParts 1 false 0 [(0,.str [105,110,118,97,114,105,97,110,116]),(1,.str v.nm),(2,.str [112,97,99,107,101,116,115]),(3,.str v.pk),(4,.str [102,114,111,109])]=some ((headW v).map .str):=rfl
 have htk:∀ S,tokO [(0,1)] (.sl .full 1 ((headW v).map .str)) S=some (.sl (.own S.length 0) 1 ((headW v).map .str),S++[.tok (headW v).length]):=fun S=>rfl
 unfold f47 n47;dsimp only
 refine qbb ?_
 (repeat' first|(with_reducible apply qa3)|((conv=>arg 2;arg 1;simp (disch:=first|omega|assumption) only [qaf,Nat.zero_add,Nat.add_zero,List.length_append,List.length_cons,List.length_nil,qbs,qbl,qbf,qa7,ldc0,ivbx,ivc0,ivc1,hspt,htk]);(with_reducible apply qac)))
 refine qay ?_
 conv=>lhs;simp only []
 exact hlo
end Go.Vm.Rx
