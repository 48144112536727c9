/- RxS36, RxS37, RxS38 in one text. -/
import Derived.Test.YtagmpieoalkneaaGreatDoorRxS35
import Derived.Test.YtagmpieoalkneaaGreatDoorVmVs
set_option linter.all false
/- Is a text just some words? What the program says. -/
namespace Go.Vm.Rx
open Go Go.Proofs P
set_option maxRecDepth 10000
set_option maxHeartbeats 2000000
theorem plainStrs (ws:List Str):PlainL (ws.map .str):=PlainL.map (fun s=>⟨fun _=>rfl,rfl⟩) ws
theorem strs_shut (ws:List Str) (n m:Nat):(encL n (ws.map .str)).shut m=encL n (ws.map .str):=(encL_plain (plainStrs ws) n).shut m
theorem strs_canon (ws:List Str) (n:Nat):(encL n (ws.map .str)).canon=encL n (ws.map .str):=(encL_plain (plainStrs ws) n).canon
theorem row_shut (l:List Word) (m:Nat):(encRow l).shut m=encRow l:=(plainRow l).shut m
theorem s87_loop (A:St) (row:List Word) (want:List Str) (hn:row.length=want.length) (hl:row.length≤100000000):∀ (t:List Word) (i:Nat),row.drop i=t →
  LP Tryz.prog rxA 87 [0,1,0,1,1,1] [A] (Env.mk (sp [(1,encL 1 (want.map .str)),(34,encRow row),(0,.int .i64 (row.length:Nat)),(0,.int .i64 (i:Nat))] 12) []) A=some (.ret (.bool (decide (t.map Word.t=want.drop i))),A):=by
 intro t
 induction t with
 | nil =>
  intro i ht
  have h1:=qb1 ht
  have h2:want.drop i=[]:=List.drop_eq_nil_of_le (by omega)
  refine qbb (qbh (q87_0 ..) ?_)
  unfold n87_0;dsimp only
  (repeat' first|(with_reducible first|apply qai|apply qaa (b:=false)|apply qan)|((conv=>arg 2;arg 1;simp only [Option.map_some,qax,qa6,qa9,qa8]);(with_reducible first|apply qac|(apply qa2;omega))))
  ((try conv=>arg 2;simp only [qae,qaw,qar,qad,List.take_length,qau,qab,qah]);refine qal ?_)
  rw [h2];rfl
 | cons w t ih =>
  intro i ht
  have h1:=qbz ht
  obtain ⟨x,u,hu⟩:∃ x u,want.drop i=x::u:=by
   cases hu:want.drop i with
   | nil=>have:=qb1 hu;omega
   | cons x u=>exact ⟨x,u,rfl⟩
  have hx:=qb6 (f:=encW) ht 3 true .i64
  have hy:=qb6 (f:=D.str) hu 1 false .i64
  have he:encRow row=encL 3 (row.map encW):=rfl
  have hlw:∀ a b c,layCells true 3 0 [a,b,c] (.agg [.str w.t,.int .i64 w.line,.int .i64 w.col])=some [.str w.t,.int .i64 w.line,.int .i64 w.col]:=fun a b c=>rfl
  have hof:ofCells true [D.str w.t,.int .i64 w.line,.int .i64 w.col] 0 3=some (.agg [.str w.t,.int .i64 w.line,.int .i64 w.col]):=rfl
  refine qbb (qbh (q87_0 ..) ?_)
  unfold n87_0;dsimp only
  rw [hu]
  by_cases hq:w.t=x
  ·(repeat' first|(with_reducible first|apply qa3|apply tp_gk|apply qaa (b:=true)|apply qaa (b:=false)|apply qap|apply qan|(apply tot_sneq_t;first|assumption|with_reducible rfl))|((conv=>arg 2;arg 1;simp (disch:=first|omega|assumption) only [qbe,qa5,qam,qaf,qav,qa4,Nat.add_zero,qbp,qa6,qa9,qa8,qbc,cell_str,qa7,ldc0,sto_sh0,stoc0,he,hx,hy,cellW,cellsW,hlw,hof]);(with_reducible first|apply qac|apply qbg|(apply qas;omega))))
   (refine qay ?_;(conv=>lhs;simp (disch:=first|omega|assumption) only [qao,qbr,List.map_nil,qa6,qa9,qa8,List.take_left']);rw [strs_shut,row_shut];have:=ih (i+1) (qbi ht);simp only [Int.natCast_add,Int.natCast_one] at this;rw [qbi hu] at this;simp only [sp,anys] at this ⊢;rw [this];simp [hq])
  ·(repeat' first|(with_reducible first|apply qa3|apply qai|apply qaa (b:=true)|apply qap|(apply tot_sneq_f;first|assumption|decide|exact List.cons_ne_nil _ _))|((conv=>arg 2;arg 1;simp (disch:=first|omega|assumption) only [Option.map_some,qax,qaf,qav,qa4,Nat.add_zero,qbp,qa6,qa9,qa8,qbc,cell_str,qa7,ldc0,sto_sh0,stoc0,he,hx,hy,cellW,cellsW,hlw,hof]);(with_reducible first|apply qac|(apply qas;omega))))
   ((try conv=>arg 2;simp (disch:=first|omega|assumption) only [qae,qaw,qam,qad,qau,qab,qah,List.take_left']);refine qal ?_)
   simp [hq]
def aloneP (want:List Str):Except (Int×Int) (List (List Word))→Bool
 | .ok [row]=>decide (row.map Word.t=want)
 | _=>false
theorem s87 (s:Str) (want:List Str) (hs:s.length≤1040000) (hl:want.length≤1040000) (x:Except (Int×Int) (List (List Word))) (hx:textP s x) (A:St):f87 (.str s) (encL 1 (want.map .str)) A=some (.ret (.bool (aloneP want x)),A):=by
 have hln:=fun A=>s23 s (by omega) x hx A
 unfold f87 n87;dsimp only
 refine qbb ?_
 rcases x with ⟨p,c⟩|rows
 ·simp only [linesRes] at hln
  (repeat' first|(with_reducible first|apply qac|apply qa3|apply qaz|apply qa1|apply qai|apply qag (b:=true)|apply qaa (b:=true)|apply qap|apply qbq|(apply tot_neq_f;omega))|((conv=>arg 2;arg 1;simp (disch:=first|omega|assumption) only [qaq,qat,ext0,extS,r23,hln]);(with_reducible first|apply qac|apply qag (b:=true)|apply qaa (b:=true))))
  ((try conv=>arg 2;simp only [qae,qaw,qar,qad,List.take_length,qau,qab,qah]);refine qal ?_)
  rfl
 ·have hrl:=(textP_ok hx).1
  simp only [linesRes,List.nil_append] at hln
  rcases rows with _|⟨row,_|⟨row2,rows⟩⟩
  ·(repeat' first|(with_reducible first|apply qac|apply qa3|apply qaz|apply qa1|apply qai|apply qag (b:=false)|apply qaa (b:=false)|apply qap|apply qbq|apply qba|(apply tot_neq_t;omega)|(apply tot_neq_f;omega))|((conv=>arg 2;arg 1;simp (disch:=first|omega|assumption) only [qaq,qak,lenSl_sl,List.map_nil,List.length_nil,encL_nil,qat,ext0,extS,r23,hln]);(with_reducible first|apply qac|apply qag (b:=true)|apply qaa (b:=true))))
   ((try conv=>arg 2;simp only [qae,qaw,qar,qad,List.take_length,qau,qab,qah]);refine qal ?_)
   rfl
  ·simp only [List.map_cons,List.map_nil,encL_c] at hln
   have hlen:row.length≤s.length:=by simpa using hrl
   have hc:(encRow row).cellsT false=some [encRow row]:=rfl
   have hf:ofCells false [encRow row] 0 1=some (encRow row):=rfl
   by_cases hn:row.length=want.length
   ·have hlo:=s87_loop A row want hn (by omega) row 0 rfl
    (repeat' first|(with_reducible first|apply qac|apply qa3|apply qaz|apply qa1|apply qag (b:=false)|apply qaa (b:=false)|apply qan|apply qba|(apply tot_neq_t;omega))|((conv=>arg 2;arg 1;simp (disch:=first|omega|assumption) only [qak,lenSl_sl,qav,Nat.zero_add,List.length_cons,List.length_nil,qbc,qat,qa0,List.length_map,ext0,extS,r23,hln,idx_lit1,hc,hf,len_row]);(with_reducible first|apply qac|apply qag (b:=false)|apply qaa (b:=false))))
    (refine qay ?_;(conv=>lhs;simp only []);exact hlo)
   ·(repeat' first|(with_reducible first|apply qac|apply qa3|apply qaz|apply qa1|apply qai|apply qag (b:=false)|apply qaa (b:=false)|apply qap|apply qba|(apply tot_neq_t;omega)|(apply tot_neq_f;omega))|((conv=>arg 2;arg 1;simp (disch:=first|omega|assumption) only [qak,lenSl_sl,qav,Nat.zero_add,List.length_cons,List.length_nil,qbc,qat,qa0,List.length_map,ext0,extS,r23,hln,idx_lit1,hc,hf,len_row]);(with_reducible first|apply qac|apply qag (b:=false)|apply qaa (b:=true)|apply qaa (b:=false))))
    ((try conv=>arg 2;simp only [qae,qaw,qar,qad,List.take_length,qau,qab,qah]);refine qal ?_)
    have:¬ row.map Word.t=want:=fun e=>hn (by rw [← e];simp)
    simp [aloneP,this]
  ·have hne:¬ ((rows.length:Int)+1+1=1):=by omega
   (repeat' first|(with_reducible first|apply qac|apply qa3|apply qaz|apply qa1|apply qai|apply qag (b:=false)|apply qaa (b:=false)|apply qap|apply qbq|apply qba|(apply tot_neq_t;omega)|(apply tot_neq_f;omega))|((conv=>arg 2;arg 1;simp (disch:=first|omega|assumption) only [qaq,qak,List.length_cons,qat,qa0,List.length_map,ext0,extS,r23,hln]);(with_reducible first|apply qac|apply qag (b:=true)|apply qaa (b:=true))))
   ((try conv=>arg 2;simp only [qae,qaw,qar,qad,List.take_length,qau,qab,qah]);refine qal ?_)
   rfl
theorem alone_one {s:Str} (h:isWord s=true) (hs:s.length≤1040000) (A:St):f87 (.str s) (encL 1 ([s].map .str)) A=some (.ret (.bool true),A):=by
 have:=s87 s [s] hs (by simp) _ (textP_line (word_nl h) (toks_one 1 h)) A
 simpa [aloneP] using this
theorem alone_two {a b:Str} (ha:isWord a=true) (hb:isWord b=true) (hl:a.length+b.length≤1040000) (A:St):f87 (.str (a++b)) (encL 1 ([a,b].map .str)) A=some (.ret (.bool (!glued a b)),A):=by
 obtain ⟨x,hx⟩:=textP_some (a++b)
 rw [s87 (a++b) [a,b] (by rw [List.length_append];omega) (by simp) x hx A]
 have hnl:∀ c,c ∈ a++b→c.toNat≠10:=fun c hc=>(List.mem_append.1 hc).elim (word_nl ha c) (word_nl hb c)
 obtain ⟨y,hy⟩:=toks_some 1 ((a++b).length+1) 0 (a++b) (by omega)
 have h1:=toks_two 1 ha hb hy
 rw [← h1]
 have key:aloneP [a,b] x=areTwo a b y:=by
  unfold textP at hx
  rw [splitNL_no _ hnl] at hx
  unfold rowsOf at hx
  rw [hy] at hx
  rcases y with e|l
  ·cases hx;rfl
  ·cases l with
   | nil=>cases hx;rfl
   | cons v l =>
    cases hx
    rcases l with _|⟨w,_|⟨u,l⟩⟩
    ·simp [aloneP,areTwo,putRow,Except.map]
    ·simp [aloneP,areTwo,putRow,Except.map]
    ·simp [aloneP,areTwo,putRow,Except.map]
 rw [key]
end Go.Vm.Rx

/- Words said as a text: both texts. -/
namespace Go.Vm.Rx
open Go Go.Proofs P
set_option maxRecDepth 10000
set_option maxHeartbeats 2000000
theorem s46_loop (A:St) (l:List Str) (hl:l.length≤1040000) (hw:∀ w,w ∈ l→RxWord w):∀ (t:List Str) (i:Nat) (p acc:Str),l.drop i=p::t→acc.length≤300 * i+300 →
  LP Tryz.prog rxA 46 [0,1,0,1,1,1] [A] (Env.mk (sp [(0,encL 1 (l.map .str)),(4,.str acc),(0,.int .i64 ((i:Int)+1))] 41) []) A=some (.ret (.tup [.str (acc++sayF p t),.int .i64 0]),A):=by
 intro t
 induction t with
 | nil =>
  intro i p acc ht ha
  have h1:=qbz ht
  have h2:=qb1 (qbi ht)
  refine qbb (qbh (q46_1 ..) ?_)
  unfold n46_1;dsimp only
  (repeat' first|(with_reducible first|apply qai|apply qaa (b:=false)|apply qan)|((conv=>arg 2;arg 1;simp only [Option.map_some,qax,qa6,qa9,qa8,qa0,List.length_map]);(with_reducible first|apply qac|(apply qa2;omega))))
  ((try conv=>arg 2;simp only [qae,qao,shut_strD,shut_tup,qby,qbv,qar,qad,List.take_length,qaj,qat,qb7,qbu,qbm,qab,qah]);refine qal ?_)
  simp [sayF]
 | cons w t ih =>
  intro i p acc ht ha
  have h1:=qbz ht
  have hd:=qbi ht
  have h2:=qbz hd
  have hp:=hw p (drop_mem ht)
  have hww:=hw w (drop_mem hd)
  obtain ⟨hp1,hp2⟩:=hp
  obtain ⟨hw1,hw2⟩:=hww
  have hx:=qb6 (f:=D.str) ht 1 false .i64
  have e1:(i:Int)=(i:Int)+1 - 1:=by omega
  rw [e1] at hx
  have hy:=qb6 (f:=D.str) hd 1 false .i64
  rw [Int.natCast_add,Int.natCast_one] at hy
  have hg:=fun A=>s89 p w hp1 hw1 (by omega) A
  refine qbb (qbh (q46_1 ..) ?_)
  unfold n46_1;dsimp only
  by_cases hgl:glued p w=true
  ·rw [hgl] at hg
   have hlen:(acc++[32]).length=acc.length+1:=(by simp)
   have hd1:∀ n b,binO .add n b (.str acc) (.str [32])=some (.str (acc++[32])):=fun n b=>str_add (by simp;omega)
   have hd2:∀ n b,binO .add n b (.str (acc++[32])) (.str w)=some (.str (acc++[32]++w)):=fun n b=>str_add (by rw [hlen];omega)
   (repeat' first|(with_reducible first|(apply tot_jn;intro hkk hke)|(apply tot_jk;· assumption)|apply qac|apply qa3|apply qaz|apply qa1|apply qag (b:=true)|apply qaa (b:=true)|apply qap|apply qbd)|((conv=>arg 2;arg 1;simp (disch:=first|omega|assumption) only [qaq,qbe,qb9,qa5,qav,qa4,qa6,qa9,qa8,qbc,qat,qa0,cell_str,List.length_map,eg_0,eg_S,hx,hy,r89,hg,hd1,hd2]);(with_reducible first|apply qac|apply qaa (b:=true)|(apply qas;omega)|(apply qbx;omega))))
   (refine qay ?_;(conv=>lhs;simp only [qa6,qa9,qa8,eg_0]);have:=ih (i+1) w (acc++[32]++w) hd (by rw [List.length_append,hlen];omega);rw [Int.natCast_add,Int.natCast_one] at this;have e:acc++sayF p (w::t)=acc++[32]++w++sayF w t:=(by simp [sayF,hgl]);rw [e];exact this)
  ·have hgf:glued p w=false:=by simpa using hgl
   rw [hgf] at hg
   (repeat' first|(with_reducible first|(apply tot_jn;intro hkk hke)|(apply tot_jk;· assumption)|apply qac|apply qa3|apply qaz|apply qa1|apply qag (b:=true)|apply qaa (b:=true)|apply qap|apply qan|apply qbd)|((conv=>arg 2;arg 1;simp (disch:=first|omega|assumption) only [qaq,qbe,qb9,qa5,qav,qa4,qa6,qa9,qa8,qbc,qat,qa0,cell_str,List.length_map,eg_0,eg_S,hx,hy,r89,hg,str_add]);(with_reducible first|apply qac|apply qaa (b:=false)|(apply qas;omega)|(apply qbx;omega))))
   (refine qay ?_;(conv=>lhs;simp only [qa6,qa9,qa8,eg_0]);have:=ih (i+1) w (acc++w) hd (by simp only [List.length_append];omega);rw [Int.natCast_add,Int.natCast_one] at this;have e:acc++sayF p (w::t)=acc++w++sayF w t:=(by simp [sayF,hgf]);rw [e];exact this)
theorem s46_fst (A:St) (l:List Str) (hl:l.length≤1040000) (hw:∀ w,w ∈ l→RxWord w) :
  LP Tryz.prog rxA 46 [0,1,0,1,1,1] [A] (Env.mk (sp [(0,encL 1 (l.map .str)),(4,.str []),(0,.int .i64 0)] 41) []) A=some (.ret (.tup [.str (sayW l),.int .i64 0]),A):=by
 refine qbb (qbh (q46_1 ..) ?_)
 unfold n46_1;dsimp only
 cases l with
 | nil =>
  (repeat' first|(with_reducible first|apply qai|apply qaa (b:=false)|apply qan)|((conv=>arg 2;arg 1;simp only [Option.map_some,qax,lenSl_sl,List.map_nil,List.length_nil,qa6,qa9,qa8,encL_nil]);(with_reducible first|apply qac|(apply qa2;omega))))
  ((try conv=>arg 2;simp only [qae,qao,shut_strD,shut_tup,qby,qbv,qar,qad,List.take_length,qaj,qat,qb7,qbu,qbm,qab,qah]);refine qal ?_)
  rfl
 | cons w l =>
  have hlo:=s46_loop A (w::l) hl hw l 0 w w rfl (by have:=(hw w (by simp)).2;omega)
  have hy:=qb6 (f:=D.str) (l:=w::l) (i:=0) rfl 1 false .i64
  rw [Int.natCast_zero] at hy
  have hll:=hl
  simp only [List.length_cons] at hll
  have hwl:=(hw w (by simp)).2
  have hadd:∀ n b,binO .add n b (.str []) (.str w)=some (.str w):=fun n b=>by rw [str_add (by simp;omega)];rfl
  (repeat' first|(with_reducible first|(apply tot_jn;intro hkk hke)|(apply tot_jk;· assumption)|apply qac|apply qa3|apply qaz|apply qa1|apply qag (b:=false)|apply qaa (b:=true)|apply qaa (b:=false)|apply qap|apply qan|apply qbj)|((conv=>arg 2;arg 1;simp (disch:=first|omega|assumption) only [qak,qbe,qa5,qav,qa4,List.length_cons,qa6,qa9,qa8,qbc,qa0,cell_str,List.length_map,Int.reduceAdd,eg_0,eg_S,hy,hadd]);(with_reducible first|apply qac|apply qaa (b:=false)|(apply qas;omega)|(apply qbo;omega))))
  (refine qay ?_;(conv=>lhs;simp only [qa6,qa9,qa8,eg_0]);exact hlo)
theorem s46_all (A:St) (l:List Str) (hl:l.length≤1040000) (hw:∀ w,w ∈ l→RxWord w):∀ (t:List Str) (i:Nat),l.drop i=t →
  LP Tryz.prog rxA 46 [0,1,0,1] [A] (Env.mk (sp [(0,encL 1 (l.map .str)),(3,.int .i64 (i:Nat))] 43) []) A=some (.ret (.tup [.str (sayW l),.int .i64 0]),A):=by
 intro t
 induction t with
 | nil =>
  intro i ht
  have h1:=qb1 ht
  have hq:=s46_fst A l hl hw
  refine qbb (qbh (q46_0 ..) ?_)
  unfold n46_0;dsimp only
  (repeat' first|(with_reducible first|apply qaa (b:=false)|apply qan)|((conv=>arg 2;arg 1;simp only [qa6,qa9,qa8,qa0,List.length_map]);(with_reducible first|apply qac|(apply qa2;omega))))
  (refine qay ?_;(conv=>lhs;simp only [qa6]);exact hq)
 | cons w t ih =>
  intro i ht
  have h1:=qbz ht
  obtain ⟨hw1,hw2⟩:=hw w (drop_mem ht)
  have hy:=qb6 (f:=D.str) ht 1 false .i64
  have hg:=fun A=>s88 w hw1 (by omega) A
  refine qbb (qbh (q46_0 ..) ?_)
  unfold n46_0;dsimp only
  (repeat' first|(with_reducible first|apply qa3|apply qa1|apply qaa (b:=true)|apply qaa (b:=false)|apply qap|apply qan)|((conv=>arg 2;arg 1;simp (disch:=first|omega|assumption) only [qbe,qa5,qav,qa4,qb5,Bool.not_true,qa6,qa9,qa8,qbc,qat,qa0,cell_str,List.length_map,hy,r88,hg]);(with_reducible first|apply qac|(apply qas;omega))))
  (refine qay ?_;(conv=>lhs;simp only [qa6]);have:=ih (i+1) (qbi ht);rw [Int.natCast_add,Int.natCast_one] at this;exact this)
theorem s46 (A:St) (l:List Str) (hl:l.length≤1040000) (hw:∀ w,w ∈ l→RxWord w):f46 (encL 1 (l.map .str)) A=some (.ret (.tup [.str (sayW l),.int .i64 0]),A):=by
 unfold f46 n46;dsimp only
 exact s46_all A l hl hw l 0 rfl
theorem app_accS {b:Option Nat} {A:St} {s w:Str} (hb:AccOk b 1 (strBytes s)) (hl:s.length+w.length≤1000000000) :
  appendO 1 1 (accD b A.length 1 (strBytes s)) (.str w) (accA b A (strBytes s))=some (accD (accNext b 1 (strBytes w)) A.length 1 (strBytes (s++w)),accA (accNext b 1 (strBytes w)) A (strBytes (s++w))):=by
 rw [strBytes_append]
 exact app_acc hb rfl (by simp [strBytes];omega) (by omega)
theorem app_accB {b:Option Nat} {A:St} {s:Str} (hb:AccOk b 1 (strBytes s)) (hl:s.length+1≤1000000000) :
  appendO 1 1 (accD b A.length 1 (strBytes s)) (.sl .full 1 [.int .u8 32]) (accA b A (strBytes s))=some (accD none A.length 1 (strBytes (s++[32])),accA none A (strBytes (s++[32]))):=by
 rw [strBytes_append]
 exact app_acc1 hb (by simp [strBytes];omega) (by omega)
theorem conv_acc {b:Option Nat} {c:Nat} {s:Str} (hb:AccOk b 1 (strBytes s)):convO .bytesStr (accD b c 1 (strBytes s))=some (.str s):=by
 cases b with
 | none=>exact convBytes _ s
 | some e =>
  rcases hb with hb|hb|⟨hb,h2⟩
  ·cases hb
  ·cases hb;exact convBytes _ s
  ·cases hb
   have:s=[]:=by simpa [strBytes] using h2
   subst this
   exact convBytes0 0
theorem AccOk.nextS {b:Option Nat} {s:Str} (h:AccOk b 1 (strBytes s)) (w:Str):AccOk (accNext b 1 (strBytes w)) 1 (strBytes (s++w)):=by rw [strBytes_append];exact h.next _
theorem s45_loop (A:St) (l:List Str) (hl:l.length≤1040000) (hw:∀ w,w ∈ l→RxWord w):∀ (t:List Str) (i:Nat) (p acc:Str) (b:Option Nat),l.drop i=p::t→acc.length≤300 * i+300→AccOk b 1 (strBytes acc) →
  LP Tryz.prog rxA 45 [0,1,0,1,1] [A] (Env.mk (sp [(0,encL 1 (l.map .str)),(3,accD b A.length 1 (strBytes acc)),(2,encL 1 (l.map .str)),(0,.int .i64 (l.length:Nat)),(0,.int .i64 ((i:Int)+1))] 38) []) (accA b A (strBytes acc))=some (.ret (.tup [.str (acc++sayF p t),.int .i64 0]),A):=by
 intro t
 induction t with
 | nil =>
  intro i p acc b ht ha hb
  have h1:=qbz ht
  have h2:=qb1 (qbi ht)
  have hcv:=conv_acc (c:=A.length) hb
  refine qbb (qbh (q45_0 ..) ?_)
  unfold n45_0;dsimp only
  (repeat' first|(with_reducible first|apply qai|apply qaa (b:=false)|apply qan)|((conv=>arg 2;arg 1;simp (disch:=first|omega|assumption) only [Option.map_some,qax,qa6,qa9,qa8,hcv]);(with_reducible first|apply qac|(apply qa2;omega))))
  ((try conv=>arg 2;simp (disch:=first|omega|assumption) only [qae,qao,shut_strD,shut_tup,qby,qbv,qad,qaj,qat,qb7,qbu,qbm,qab,qah,accA_take,accA_Kept]);refine qal ?_)
  simp [sayF]
 | cons w t ih =>
  intro i p acc b ht ha hb
  have h1:=qbz ht
  have hd:=qbi ht
  have h2:=qbz hd
  have hp:=hw p (drop_mem ht)
  have hww:=hw w (drop_mem hd)
  obtain ⟨hp1,hp2⟩:=hp
  obtain ⟨hw1,hw2⟩:=hww
  have hx:=qb6 (f:=D.str) ht 1 false .i64
  have e1:(i:Int)=(i:Int)+1 - 1:=by omega
  rw [e1] at hx
  have hy:=qb6 (f:=D.str) hd 1 false .i64
  rw [Int.natCast_add,Int.natCast_one] at hy
  have hal:=fun A=>alone_one hw1 (by omega) A
  have hal2:=fun A=>alone_two hp1 hw1 (by omega) A
  refine qbb (qbh (q45_0 ..) ?_)
  unfold n45_0;dsimp only
  by_cases hgl:glued p w=true
  ·rw [hgl] at hal2
   have ap1:=app_accB (A:=A) hb (by omega)
   have ap2:=app_accS (A:=A) (w:=w) (s:=acc++[32]) (.own 1 (strBytes (acc++[32]))) (by simp only [List.length_append,List.length_cons,List.length_nil];omega)
   (repeat' first|(with_reducible first|(apply tot_jn;intro hkk hke)|(apply tot_jk;· assumption)|apply qac|apply qa3|apply qaz|apply qa1|apply qag (b:=true)|apply qaa (b:=true)|apply qaa (b:=false)|apply qap|apply qan|apply qbd)|((conv=>arg 2;arg 1;simp (disch:=first|omega|assumption) only [qaq,Option.map_some,qbe,qb9,qa5,parts_nil,parts_int,qav,qa4,Nat.zero_add,qb5,Bool.not_true,Bool.not_false,qa6,qa9,qa8,qbc,qat,cell_str,qb4,sparts_str2,eg_0,eg_S,hx,hy,canon1,canon2,r87,hal,hal2,str_add,ap1,ap2]);(with_reducible first|apply qac|apply qaa (b:=true)|(apply qas;omega)|(apply qbx;omega))))
   (refine qay ?_;(conv=>lhs;simp only [qa6,qa9,qa8,eg_0,eg_S]);have:=ih (i+1) w (acc++[32]++w) _ hd (by simp only [List.length_append,List.length_cons,List.length_nil];omega) (AccOk.nextS (.own 1 (strBytes (acc++[32]))) w);rw [Int.natCast_add,Int.natCast_one] at this;have e:acc++sayF p (w::t)=acc++[32]++w++sayF w t:=(by simp [sayF,hgl]);rw [e];exact this)
  ·have hgf:glued p w=false:=by simpa using hgl
   rw [hgf] at hal2
   have ap2:=app_accS (A:=A) (w:=w) hb (by omega)
   (repeat' first|(with_reducible first|(apply tot_jn;intro hkk hke)|(apply tot_jk;· assumption)|apply qac|apply qa3|apply qaz|apply qa1|apply qag (b:=true)|apply qaa (b:=true)|apply qaa (b:=false)|apply qap|apply qan|apply qbd)|((conv=>arg 2;arg 1;simp (disch:=first|omega|assumption) only [qaq,qbe,qb9,qa5,qav,qa4,qb5,Bool.not_true,Bool.not_false,qa6,qa9,qa8,qbc,qat,cell_str,qb4,sparts_str2,eg_0,eg_S,hx,hy,canon1,canon2,r87,hal,hal2,str_add,ap2]);(with_reducible first|apply qac|apply qaa (b:=false)|(apply qas;omega)|(apply qbx;omega))))
   (refine qay ?_;(conv=>lhs;simp only [qa6,qa9,qa8,eg_0,eg_S]);have:=ih (i+1) w (acc++w) _ hd (by simp only [List.length_append];omega) (AccOk.nextS hb w);rw [Int.natCast_add,Int.natCast_one] at this;have e:acc++sayF p (w::t)=acc++w++sayF w t:=(by simp [sayF,hgf]);rw [e];exact this)
theorem s45 (A:St) (l:List Str) (hl:l.length≤1040000) (hw:∀ w,w ∈ l→RxWord w):f45 (encL 1 (l.map .str)) A=some (.ret (.tup [.str (sayW l),.int .i64 0]),A):=by
 unfold f45 n45;dsimp only
 refine qbb ?_
 cases l with
 | nil =>
  (repeat' first|((conv=>arg 2;arg 1;simp only [lenSl_sl,List.map_nil,List.length_nil,encL_nil]);(with_reducible apply qac)))
  refine qbh (q45_0 ..) ?_
  unfold n45_0;dsimp only
  (repeat' first|(with_reducible first|apply qai|apply qaa (b:=false)|apply qan)|((conv=>arg 2;arg 1;simp only [Option.map_some,convBytes0,qax,List.map_nil,encL_nil,eg_0,eg_S]);(with_reducible first|apply qac|(apply qa2;omega))))
  ((try conv=>arg 2;simp only [qae,qao,shut_strD,shut_tup,qby,qbv,qar,qad,List.take_length,qaj,qat,qb7,qbu,qbm,qab,qah]);refine qal ?_)
  rfl
 | cons w l =>
  obtain ⟨hw1,hw2⟩:=hw w (by simp)
  have hll:=hl
  simp only [List.length_cons] at hll
  have hal:=fun A=>alone_one hw1 (by omega) A
  have hb0:AccOk (some 0) 1 (strBytes []):=.nil 1
  have ap2:=app_accS (A:=A) (w:=w) hb0 (by simp;omega)
  have hlo:=s45_loop A (w::l) hl hw l 0 w ([]++w) _ rfl (by simp;omega) (AccOk.nextS hb0 w)
  have hy:=qb6 (f:=D.str) (l:=w::l) (i:=0) rfl 1 false .i64
  rw [Int.natCast_zero] at hy
  have e0:accD (some 0) A.length 1 (strBytes [])=.sl .full 0 []:=rfl
  have e1:accA (some 0) A (strBytes [])=A:=rfl
  rw [e0,e1] at ap2
  (repeat' first|((conv=>arg 2;arg 1;simp only [List.length_cons,qa0,List.length_map]);(with_reducible apply qac)))
  refine qbh (q45_0 ..) ?_
  unfold n45_0;dsimp only
  (repeat' first|(with_reducible first|(apply tot_jn;intro hkk hke)|(apply tot_jk;· assumption)|apply qac|apply qa3|apply qaz|apply qa1|apply qag (b:=false)|apply qaa (b:=true)|apply qaa (b:=false)|apply qap|apply qan|apply qbj)|((conv=>arg 2;arg 1;simp (disch:=first|omega|assumption) only [qak,qbe,qa5,qav,qa4,qb5,Bool.not_true,qbc,qat,cell_str,qb4,Int.reduceAdd,eg_0,eg_S,hy,canon1,r87,hal,ap2]);(with_reducible first|apply qac|apply qaa (b:=false)|(apply qas;omega)|(apply qbo;omega))))
  (refine qay ?_;(conv=>lhs;simp only [eg_0,eg_S]);exact hlo)
end Go.Vm.Rx

/- Rows of words as one row: slices.Concat of texts. -/
namespace Go.Vm.Rx
open Go Go.Proofs P
set_option maxRecDepth 10000
set_option maxHeartbeats 2000000
def sRow (l:List Str):D:=encL 1 (l.map .str)
theorem len_sRow (l:List Str):lenSlO (sRow l)=some (.int .i64 l.length):=by simp [sRow]
theorem s54_loop (A:St) (rows:List (List Str)) (hl:rows.flatten.length≤1040000) (hrl:rows.length≤100000000):∀ (t:List (List Str)) (i:Nat) (acc:List Str) (b:Option Nat),rows.drop i=t→i≤rows.length→acc++t.flatten=rows.flatten→AccOk b 1 (acc.map D.str) →
  ∃ b',AccOk b' 1 (rows.flatten.map D.str)∧LP Tryz.prog rxA 54 [0,1,0,1,1,1,1] [A] (Env.mk (sp [(6,accD b A.length 1 (acc.map D.str)),(18,encL 1 (rows.map sRow)),(0,.int .i64 (rows.length:Nat)),(0,.int .i64 (i:Nat))] 8) []) (accA b A (acc.map D.str)) =
   some (.ret (accD b' A.length 1 (rows.flatten.map D.str)),accA b' A (rows.flatten.map D.str)):=by
 intro t
 induction t with
 | nil =>
  intro i acc b ht hi hacc hb
  have h1:=qb1 ht
  simp only [List.flatten_nil,List.append_nil] at hacc
  subst hacc
  refine ⟨b,hb, ?_⟩
  have hlv:=acc_leave (b:=b) (A:=A) (n:=1) (plainStrs rows.flatten)
  refine qbb (qbh (q54_1 ..) ?_)
  unfold n54_1;dsimp only
  (repeat' first|(with_reducible first|apply qai|apply qaa (b:=false)|apply qan)|((conv=>arg 2;arg 1;simp only [Option.map_some,qax,qa6,qa9,qa8]);(with_reducible first|apply qac|(apply qa2;omega))))
  all_goals (((try conv=>arg 2;simp (disch:=first|omega|assumption) only [hlv]);refine qal ?_);rfl)
 | cons x t ih =>
  intro i acc b ht hi hacc hb
  have h1:=qbz ht
  have hx:=qb6 (f:=sRow) ht 1 false .i64
  have hlen:=congrArg List.length hacc
  simp only [List.length_append,List.flatten_cons] at hlen
  rw [List.flatten_cons,← List.append_assoc] at hacc
  have hap:=app_accL (A:=A) (w:=16) (new:=x.map D.str) hb (by simp;omega) (by omega)
  simp only [← List.map_append] at hap
  obtain ⟨b',hb',hq⟩:=ih (i+1) (acc++x) (accNext b 1 (x.map D.str)) (qbi ht) (by omega) hacc (by rw [List.map_append];exact hb.next _)
  simp only [Int.natCast_add,Int.natCast_one] at hq
  refine ⟨b',hb', ?_⟩
  have hc:(sRow x).cellsT false=some [sRow x]:=rfl
  have hf:ofCells false [sRow x] 0 1=some (sRow x):=rfl
  have he:sRow x=encL 1 (x.map D.str):=rfl
  refine qbb (qbh (q54_1 ..) ?_)
  unfold n54_1;dsimp only
  (repeat' first|(with_reducible first|apply qa3|apply qaa (b:=true)|apply qap)|((conv=>arg 2;arg 1;simp (disch:=first|omega|assumption) only [qbe,qa5,qav,qa4,qa6,qa9,qa8,qbc,cell_encL,hx,he,hap]);(with_reducible first|apply qac|(apply qas;omega))))
  (refine qay ?_;(conv=>lhs;simp only [qa6,qa9,qa8]);exact hq)
theorem s54_sum (A:St) (rows:List (List Str)) (hl:rows.flatten.length≤1040000) (hrl:rows.length≤100000000):∀ (t:List (List Str)) (i n:Nat),rows.drop i=t→i≤rows.length→n+t.flatten.length=rows.flatten.length →
  ∃ b',AccOk b' 1 (rows.flatten.map D.str)∧LP Tryz.prog rxA 54 [0,1,0,1,1] [A] (Env.mk (sp [(0,encL 1 (rows.map sRow)),(2,.int .i64 (n:Nat)),(5,encL 1 (rows.map sRow)),(0,.int .i64 (rows.length:Nat)),(0,.int .i64 (i:Nat))] 24) []) A =
   some (.ret (accD b' A.length 1 (rows.flatten.map D.str)),accA b' A (rows.flatten.map D.str)):=by
 intro t
 induction t with
 | nil =>
  intro i n ht hi hn
  have h1:=qb1 ht
  simp only [List.flatten_nil,List.length_nil,Nat.add_zero] at hn
  subst hn
  by_cases h0:rows.flatten.length=0
  ·obtain ⟨b',hb',hq⟩:=s54_loop A rows hl hrl rows 0 [] (some 0) rfl (by omega) (by simp) (.nil 1)
   refine ⟨b',hb', ?_⟩
   have hg:Run Tryz.prog rxA 100 [.sl .full 0 [],.int .i64 (rows.flatten.length:Nat)] A=some (.ret (.sl .full 0 []),A):=by
    rw [Run_ext _ _ (by decide) rfl,h0];rfl
   refine qbb (qbh (q54_0 ..) ?_)
   unfold n54_0;dsimp only
   (repeat' first|(with_reducible first|apply qa1|apply qaa (b:=false)|apply qan)|((conv=>arg 2;arg 1;simp (disch:=first|omega|assumption) only [qa6,qa9,qa8,qa0,List.length_map,hg]);(with_reducible first|apply qac|(apply qa2;omega))))
   (refine qay ?_;(conv=>lhs;simp only [qa6]);exact hq)
  ·obtain ⟨b',hb',hq⟩:=s54_loop A rows hl hrl rows 0 [] none rfl (by omega) (by simp) (.own _ _)
   refine ⟨b',hb', ?_⟩
   have hg:Run Tryz.prog rxA 100 [.sl .full 0 [],.int .i64 (rows.flatten.length:Nat)] A=some (.ret (.sl (.own A.length 0) 1 []),A++[.tok 0]):=by
    rw [Run_ext _ _ (by decide) rfl]
    show (if ((rows.flatten.length:Nat):Int)<0 then none else if ((rows.flatten.length:Nat):Int)=0 then _ else cond (roomOk ((rows.flatten.length:Nat):Int).toNat 16) _ _)=_
    have hro:roomOk ((rows.flatten.length:Nat):Int).toNat 16=true:=by
     simp only [roomOk,decide_eq_true_eq,Int.toNat_natCast];omega
    rw [if_neg (by omega),if_neg (by omega),hro];rfl
   refine qbb (qbh (q54_0 ..) ?_)
   unfold n54_0;dsimp only
   (repeat' first|(with_reducible first|apply qa1|apply qaa (b:=false)|apply qan)|((conv=>arg 2;arg 1;simp (disch:=first|omega|assumption) only [qa6,qa9,qa8,qa0,List.length_map,hg]);(with_reducible first|apply qac|(apply qa2;omega))))
   (refine qay ?_;(conv=>lhs;simp only [qa6]);exact hq)
 | cons x t ih =>
  intro i n ht hi hn
  have h1:=qbz ht
  have hx:=qb6 (f:=sRow) ht 1 false .i64
  have hc:(sRow x).cellsT false=some [sRow x]:=rfl
  have hf:ofCells false [sRow x] 0 1=some (sRow x):=rfl
  simp only [List.flatten_cons,List.length_append] at hn
  obtain ⟨b',hb',hq⟩:=ih (i+1) (n+x.length) (qbi ht) (by omega) (by omega)
  simp only [Int.natCast_add,Int.natCast_one] at hq
  refine ⟨b',hb', ?_⟩
  refine qbb (qbh (q54_0 ..) ?_)
  unfold n54_0;dsimp only
  (repeat' first|(with_reducible first|(apply tot_jn;intro hkk hke)|(apply tot_jk;· assumption)|apply qa3|apply qaa (b:=true)|apply qaa (b:=false)|apply qap|apply qan|(apply qa2;omega))|((conv=>arg 2;arg 1;simp (disch:=first|omega|assumption) only [qbe,qa5,qav,qa6,qa9,qa8,qbc,eg_0,eg_S,hx,hc,hf,len_sRow]);(with_reducible first|apply qac|(apply qas;omega))))
  (refine qay ?_;(conv=>lhs;simp only [qa6,qa9,qa8,eg_0,eg_S]);exact hq)
theorem s54 (A:St) (rows:List (List Str)) (hl:rows.flatten.length≤1040000) (hrl:rows.length≤100000000) :
  ∃ b',AccOk b' 1 (rows.flatten.map D.str)∧f54 (encL 1 (rows.map sRow)) A=some (.ret (accD b' A.length 1 (rows.flatten.map D.str)),accA b' A (rows.flatten.map D.str)):=by
 obtain ⟨b',hb',hq⟩:=s54_sum A rows hl hrl rows 0 0 rfl (by omega) (by omega)
 refine ⟨b',hb', ?_⟩
 unfold f54 n54;dsimp only
 refine qbb ?_
 (repeat' first|((conv=>arg 2;arg 1;simp only [qa0,List.length_map]);(with_reducible apply qac)))
 (refine qay ?_;(conv=>lhs;simp only []);exact hq)
end Go.Vm.Rx
