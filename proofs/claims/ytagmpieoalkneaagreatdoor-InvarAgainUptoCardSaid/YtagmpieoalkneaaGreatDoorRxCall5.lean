/- RxS85, RxS86, RxCall5 in one text. -/
import Derived.Test.YtagmpieoalkneaaGreatDoorRxS84
import Derived.Test.YtagmpieoalkneaaGreatDoorRxI8
import Derived.Test.YtagmpieoalkneaaGreatDoorRxNR
set_option linter.all false
/- The text of invariants is read as those invariants. -/
namespace Go.Vm.Rx
open Go Go.Proofs P
theorem num_back {n : Int} (h : 0 ≤ n) (h2 : n < 100) : numP (numT n) = some n:=by
  unfold numT
  obtain ⟨m,rfl⟩ : ∃ m : Nat,n = m:=⟨n.toNat,by omega⟩
  simp only [Int.toNat_natCast]
  by_cases h3 : m < 10
  · have e : Lib.decDigits m = [UInt8.ofNat (48 + m)]:=by rw [Lib.decDigits,dif_pos h3]
    rw [e]
    exact num_one ⟨m,h3⟩
  · have e : Lib.decDigits m = [UInt8.ofNat (48 + m / 10),UInt8.ofNat (48 + m % 10)]:=by
      rw [Lib.decDigits,dif_neg h3,Lib.decDigits,dif_pos (by omega)];rfl
    rw [e]
    have:=num_two ⟨m / 10,by omega⟩ ⟨m % 10,by omega⟩ (by dsimp only;omega)
    dsimp only at this
    rw [this]
    congr 1
    omega
theorem sign_back {c : Int} (h : 1 ≤ c ∧ c ≤ 3) : signOf (signT c) = c:=by
  rcases (by omega : c = 1 ∨ c = 2 ∨ c = 3) with rfl | rfl | rfl <;> rfl
theorem num_letters {n : Int} (h : 0 ≤ n) (h2 : n < 100) : net (numT n) = 0:=by
  unfold numT
  obtain ⟨m,rfl⟩ : ∃ m : Nat,n = m:=⟨n.toNat,by omega⟩
  simp only [Int.toNat_natCast]
  have hd:=fun k (hk : k < 10)=>digit_c ⟨k,hk⟩
  dsimp only at hd
  by_cases h3 : m < 10
  · have e : Lib.decDigits m = [UInt8.ofNat (48 + m)]:=by rw [Lib.decDigits,dif_pos h3]
    rw [e]
    exact net_letters _ fun d hm=>by rw [List.mem_singleton.1 hm];exact (hd m h3).1
  · have e : Lib.decDigits m = [UInt8.ofNat (48 + m / 10),UInt8.ofNat (48 + m % 10)]:=by
      rw [Lib.decDigits,dif_neg h3,Lib.decDigits,dif_pos (by omega)];rfl
    rw [e]
    refine net_letters _ fun d hm=>?_
    rcases List.mem_cons.1 hm with rfl | hm
    · exact (hd _ (by omega)).1
    · rw [List.mem_singleton.1 hm];exact (hd _ (by omega)).1
def foreW (v : Iv) : List Str:=headW v ++ joinT true v.ing ++ midW v
theorem body_fore (v : Iv) : ivBody v = foreW v ++ v.path.body:=rfl
theorem net_join : ∀ (l : List Str) (b : Bool),(∀ s,s ∈ l → isName s = true) → netW (joinT b l) = 0
  | [],_,_=>rfl
  | x :: t,b,h=>by
    unfold joinT
    rw [netW_app,net_join t false fun s hs=>h s (List.mem_cons_of_mem _ hs)]
    have:=net_name (h x (by simp))
    cases b
    · show (0 : Int) + (net x + 0) + 0 = 0
      omega
    · show net x + 0 + 0 = 0
      omega
theorem net_fore {v : Iv} (hv : IvGood v) (hr : ivRight v = true) : netW (foreW v) = 0:=by
  unfold ivRight at hr
  simp only [Bool.and_eq_true,decide_eq_true_eq] at hr
  obtain ⟨⟨⟨⟨⟨⟨h1,h2⟩,h3⟩,h4⟩,h5⟩,h6⟩,h7⟩:=hr
  have hpk : net v.pk = 0:=by
    have h2':=h2
    unfold isCube at h2'
    simp only [Bool.and_eq_true] at h2'
    refine net_letters _ fun d hd=>?_
    have:=List.all_eq_true.1 h2'.1.1 d hd
    have e : ∀ n : Nat,d.toNat = n → d = UInt8.ofNat n:=fun n hn=>by rw [← hn];simp
    simp only [cubeB,decide_eq_true_eq] at this
    rcases this with hq | hq | hq <;> (rw [e _ hq];decide)
  have hs : net (signT v.cmp) = 0:=by
    rcases (by omega : v.cmp = 1 ∨ v.cmp = 2 ∨ v.cmp = 3) with e | e | e <;> rw [e] <;> rfl
  have hnm:=net_name h1
  have n1:=num_letters (n:=v.hops) (by omega) (by omega)
  have n2:=num_letters (n:=v.cnt) (by omega) (by omega)
  have hj:=net_join v.ing true (risT_names _ _ h7)
  unfold foreW
  rw [netW_app,netW_app,hj]
  simp only [headW,midW,netW,hpk,hs,hnm,n1,n2]
  rfl
theorem line_back {v : Iv} (hv : IvGood v) (hr : ivRight v = true) {l : List Word} (hl : l.map Word.t = ivBody v) : lineP l = .ok v ∧ netW (ivBody v) = 0 ∨ ∃ a,51 ≤ netW ((ivBody v).take (a + 1)):=by
  have hr':=hr
  unfold ivRight at hr'
  simp only [Bool.and_eq_true,decide_eq_true_eq] at hr'
  obtain ⟨⟨⟨⟨⟨⟨h1,h2⟩,h3⟩,h4⟩,h5⟩,h6⟩,h7⟩:=hr'
  have hnf:=net_fore hv hr
  have hdr : (l.drop (foreW v).length).map Word.t = v.path.body:=by
    rw [List.map_drop,hl,body_fore,List.drop_left]
  rcases read_back hv.path hdr with ⟨h8,h9⟩ | ⟨a,h8,h9⟩
  · left
    refine ⟨?_,by rw [body_fore,netW_app,hnf,h9];rfl⟩
    have hat : P.At l 0 (ivBody v):=P.At.drop (by simpa using hl)
    rw [body_fore] at hat
    obtain ⟨hat,-⟩:=P.At.app.1 hat
    unfold foreW at hat
    obtain ⟨hat,hm⟩:=P.At.app.1 hat
    obtain ⟨hh,hj⟩:=P.At.app.1 hat
    obtain ⟨a0,a1,a2,a3,a4,-⟩:=hh
    have hlen : l.length = (ivBody v).length:=by rw [← hl];simp
    have hfl : (foreW v).length = 5 + (joinT true v.ing).length + 6:=by simp [foreW,headW,midW];omega
    have hll : l.length = 5 + (joinT true v.ing).length + 6 + v.path.body.length:=by rw [hlen,body_fore,List.length_append,hfl]
    cases hing : v.ing with
    | nil=>rw [hing] at h3;simp at h3
    | cons x t =>
      rw [hing] at h7 hj hm hll hfl h3
      have ej : joinT true (x :: t) = x :: joinT false t:=by simp [joinT]
      rw [ej] at hj hm hll hfl
      simp only [headW,List.length_append,List.length_cons,List.length_nil,Nat.zero_add,Nat.reduceAdd] at hj hm hll hfl h3
      have em : 5 + ((joinT false t).length + 1) = 5 + 1 + (joinT false t).length:=by omega
      rw [em] at hm
      obtain ⟨b0,b1,b2,b3,b4,b5,-⟩:=hm
      rw [risT_cons] at h7
      simp only [Bool.and_eq_true] at h7
      have hjl:=joinT_len false t
      have hx:=ing_read t x [] 5 (l.length + 1 - 5) hj (by rw [b0];decide) h7.1.1 (by simp) h7.2 (by simp only [List.length_nil];omega) (by
        have : ∀ (u : List Str),u.length ≤ (joinT false u).length:=fun u=>by
          induction u with
          | nil=>simp
          | cons y u ih=>simp only [joinT,List.length_append,List.length_cons,Bool.false_eq_true,if_false,List.length_nil];omega
        have:=this t
        omega)
      have e0:=mustP_t a0
      have e1 : nameP l 1 = .ok (v.nm,2):=by rw [nameP_t (by rw [a1];exact h1),a1]
      have e2:=mustP_t a2
      have e3 : cubeP l 3 = .ok (v.pk,4):=by rw [cubeP_t (by rw [a3];exact h2),a3]
      have e4:=mustP_t a4
      simp only [List.nil_append] at hx
      generalize 5 + 1 + (joinT false t).length = k at hx b0 b1 b2 b3 b4 b5 em
      have f0:=mustP_t b0
      have f1 : numberP l 64 (k + 1) = .ok (v.hops,k + 1 + 1):=numberP_t (by rw [b1];exact num_back (by omega) (by omega)) h4.2
      have f2:=mustP_t b2
      have f3 : P.signP l (k + 1 + 1 + 1) = .ok (v.cmp,k + 1 + 1 + 1 + 1):=by
        have:=sign_back h5
        rw [P.signP_t (by rw [b3,this];omega),b3,this]
      have f4 : numberP l 62 (k + 1 + 1 + 1 + 1) = .ok (v.cnt,k + 1 + 1 + 1 + 1 + 1):=numberP_t (by rw [b4];exact num_back (by omega) (by omega)) h6.2
      have f5:=mustP_t b5
      have f6 : pathP l (k + 1 + 1 + 1 + 1 + 1 + 1) = .ok v.path:=by
        unfold pathP
        have ek : k + 1 + 1 + 1 + 1 + 1 + 1 = (foreW v).length:=by omega
        rw [ek,h8];rfl
      have hv' : v = ⟨v.nm,v.pk,x :: t,v.hops,v.cmp,v.cnt,v.path⟩:=by rw [← hing]
      rw [hv']
      simp only [Nat.reduceAdd,Nat.zero_add] at e0 e2 e4
      unfold lineP
      rw [e0];dsimp only [Except.bind];rw [e1];dsimp only [Except.bind];rw [e2];dsimp only [Except.bind];rw [e3];dsimp only [Except.bind];rw [e4];dsimp only [Except.bind]
      unfold tail1P tail2P tail3P tail4P
      rw [hx];dsimp only [Except.bind];rw [f0];dsimp only [Except.bind];rw [f1];dsimp only [Except.bind];rw [f2];dsimp only [Except.bind];rw [f3];dsimp only [Except.bind];rw [f4];dsimp only [Except.bind];rw [f5];dsimp only [Except.bind];rw [f6]
  · right
    refine ⟨(foreW v).length + a, ?_⟩
    rw [body_fore,show (foreW v).length + a + 1 = (foreW v).length + (a + 1) from by omega,List.take_length_add_append,netW_app,hnf]
    omega
def linesT : List Iv → Str
  | []=>[]
  | v :: t=>sayW (ivBody v) ++ 10 :: linesT t
theorem splitNL_at : ∀ (a r : Str),(∀ c,c ∈ a → c.toNat ≠ 10) → splitNL (a ++ 10 :: r) = (a,(splitNL r).1 :: (splitNL r).2)
  | [],r,_=>rfl
  | c :: a,r,h=>by
    rw [List.cons_append,splitNL,if_neg (h c (by simp)),splitNL_at a r fun d hd=>h d (List.mem_cons_of_mem _ hd)]
def Fresh : List Iv → List Iv → Prop
  | _,[]=>True
  | pre,v :: t=>knownP pre v.nm = false ∧ Fresh (pre ++ [v]) t
theorem rows_back : ∀ (L : List Iv) (n : Int) (pre : Str) (acc : List Iv),net pre = 0 → (∀ v,v ∈ L → IvGood v ∧ ivRight v = true) → Fresh acc L → acc.length + L.length ≤ 64 →
    ∃ rows,rowsOf n ((splitNL (linesT L)).1 :: (splitNL (linesT L)).2) = some (.ok rows) ∧ (rowsP acc rows = .ok (acc ++ L) ∨ 51 ≤ depF 0 0 (pre ++ linesT L))
  | [],n,pre,acc,hp,hg,hf,hl=>⟨[],rfl,.inl (by simp [rowsP])⟩
  | v :: L,n,pre,acc,hp,hg,hf,hl=>by
    obtain ⟨g1,g2⟩:=hg v (by simp)
    have hwd:=(body_ok g1 g2).1
    have hnl:=sayW_nl fun w hw=>(hwd w hw).1
    have hne : ∃ w r,ivBody v = w :: r:=⟨wInvariant,_,rfl⟩
    obtain ⟨w,r,hwr⟩:=hne
    obtain ⟨ws,h1,h2⟩:=toks_say n r w ((sayW (ivBody v)).length + 1) 0 (by rw [← hwr];exact fun w hw=>(hwd w hw).1) (by rw [hwr];simp [sayW])
    rw [← hwr] at h2
    have hst : w ++ sayF w r = sayW (ivBody v):=by rw [hwr];rfl
    rw [hst] at h1
    simp only [List.length_cons] at hl
    have hwne : ∃ a b,ws = a :: b:=by
      cases ws with
      | nil=>rw [hwr] at h2;cases h2
      | cons a b=>exact ⟨a,b,rfl⟩
    unfold linesT
    rw [splitNL_at _ _ hnl]
    have step : ∀ rows,rowsOf (n + 1) ((splitNL (linesT L)).1 :: (splitNL (linesT L)).2) = some (.ok rows) → rowsOf n (sayW (ivBody v) :: (splitNL (linesT L)).1 :: (splitNL (linesT L)).2) = some (.ok (ws :: rows)):=by
      intro rows hrw
      rw [rowsOf,h1]
      dsimp only
      rw [hrw]
      obtain ⟨a,b,rfl⟩:=hwne
      rfl
    rcases line_back g1 g2 h2 with ⟨h3,h4⟩ | ⟨a,h3⟩
    · have hp' : net (pre ++ (sayW (ivBody v) ++ [10])) = 0:=by
        rw [net_app,net_app,hp,net_sayW,h4];rfl
      obtain ⟨rows,h5,h6⟩:=rows_back L (n + 1) (pre ++ (sayW (ivBody v) ++ [10])) (acc ++ [v]) hp' (fun u hu=>hg u (List.mem_cons_of_mem _ hu)) hf.2 (by simp only [List.length_append,List.length_cons,List.length_nil];omega)
      refine ⟨ws :: rows,step rows h5, ?_⟩
      rcases h6 with h6 | h6
      · left
        have ha : addP acc ws = .ok v:=by
          unfold addP
          rw [h3]
          dsimp only [Except.bind]
          rw [hf.1,if_neg (by decide),if_neg (by omega)]
        rw [rowsP,ha]
        dsimp only
        rw [h6,List.append_assoc];rfl
      · right
        simpa using h6
    · obtain ⟨rows,h5,-⟩:=rows_back L (n + 1) [] (acc ++ [v]) rfl (fun u hu=>hg u (List.mem_cons_of_mem _ hu)) hf.2 (by simp only [List.length_append,List.length_cons,List.length_nil];omega)
      refine ⟨ws :: rows,step rows h5,.inr ?_⟩
      obtain ⟨t,ht⟩:=sayW_pre ((ivBody v).take (a + 1)) ((ivBody v).drop (a + 1)) (by rw [hwr];simp)
      rw [List.take_append_drop] at ht
      rw [ht,List.append_assoc,← List.append_assoc]
      have:=depF_pre (pre ++ sayW ((ivBody v).take (a + 1))) (t ++ 10 :: linesT L) 0 0 (by omega)
      rw [net_app,hp,net_sayW] at this
      omega
theorem printL_some : ∀ (t pre : List Iv) (b : Str),printL b pre t = (b ++ linesT t,0,0) ∧ (b ++ linesT t).length ≤ 1048576 ∧ (∀ v,v ∈ t → ivForm v = 0) ∧ Fresh pre t ∨
    (printL b pre t).1 = [] ∧ 0 ≤ (printL b pre t).2.1 ∧ (printL b pre t).2.2 ≠ 0 ∧ ((∀ v,v ∈ t → ivForm v = 0) → Fresh pre t → (printL b pre t).2.2 = 2)
  | [],pre,b=>by
    unfold printL linesT
    by_cases h : 1048576 < b.length
    · rw [if_pos h];exact .inr ⟨rfl,by decide,by decide,fun _ _=>rfl⟩
    · rw [if_neg h]
      exact .inl ⟨by simp,by simp;omega,by simp,trivial⟩
  | v :: t,pre,b=>by
    unfold printL linesT
    by_cases h : ivForm v = 0
    · rw [if_neg (fun e=>e h)]
      by_cases hk : knownP pre v.nm = true
      · rw [if_pos hk]
        exact .inr ⟨rfl,by dsimp only;omega,by show (52 : Int) ≠ 0;decide,fun _ hf=>by have:=hf.1;rw [hk] at this;cases this⟩
      · rw [if_neg hk]
        have e : b ++ (sayW (ivBody v) ++ 10 :: linesT t) = b ++ sayW (ivBody v) ++ [10] ++ linesT t:=by simp
        rw [e]
        rcases printL_some t (pre ++ [v]) (b ++ sayW (ivBody v) ++ [10]) with ⟨h1,h2,h3,h4⟩ | ⟨h1,h2,h3,h4⟩
        · refine .inl ⟨h1,h2,fun u hu=>?_,by simpa using hk,h4⟩
          rcases List.mem_cons.1 hu with rfl | hu
          · exact h
          · exact h3 u hu
        · exact .inr ⟨h1,h2,h3,fun hg hf=>h4 (fun u hu=>hg u (List.mem_cons_of_mem _ hu)) hf.2⟩
    · rw [if_pos h]
      exact .inr ⟨rfl,by dsimp only;omega,h,fun hg _=>absurd (hg v (by simp)) h⟩
theorem text_back (l : List Iv) (hv : ∀ v,v ∈ l → IvWell v) {s : Str} {n : Int} (h : printP l = (s,n,0)) (hd : depF 0 0 s ≤ 50) : s.length ≤ 1048576 ∧ ∃ rows,textP s (.ok rows) ∧ rowsP [] rows = .ok l:=by
  unfold printP at h
  split at h
  · simp at h
  · rcases printL_some l [] [] with ⟨h1,h2,h3,h4⟩ | ⟨h1,h2,h3,h4⟩
    · rw [h1] at h
      simp only [List.nil_append,Prod.mk.injEq,and_true] at h h2
      obtain ⟨rfl,-⟩:=h
      refine ⟨h2, ?_⟩
      obtain ⟨rows,h5,h6⟩:=rows_back l 1 [] [] rfl (fun v hm=>ivGood (hv v hm) (h3 v hm)) h4 (by simp only [List.length_nil];omega)
      refine ⟨rows,h5, ?_⟩
      rcases h6 with h6 | h6
      · simpa using h6
      · simp only [List.nil_append] at h6;omega
    · rw [h] at h3;exact absurd rfl h3
end Go.Vm.Rx

/- What is printed is parsed as itself;what is parsed may be,and stays. -/
namespace Go.Vm.Rx
open Go Go.Proofs P
set_option maxRecDepth 10000
set_option maxHeartbeats 4000000
theorem par_40 {c : UInt8} (h : c.toNat = 40) : par c = 1:=by unfold par;rw [if_pos h]
theorem par_41 {c : UInt8} (h : c.toNat = 41) : par c = -1:=by unfold par;rw [if_neg (by omega),if_pos h]
theorem par_0 {c : UInt8} (h : ¬ c.toNat = 40) (h2 : ¬ c.toNat = 41) : par c = 0:=by unfold par;rw [if_neg h,if_neg h2]
theorem s13_loop (s : Str) (hs : s.length ≤ 100000000) (A : St) : ∀ (t : Str) (i : Nat) (n m : Int),s.drop i = t → i ≤ s.length → -(i : Int) ≤ n → n ≤ i → 0 ≤ m → m ≤ i →
    LP Tryz.prog rxA 13 [0,1,0,1,1] [A] (Env.mk (sp [(0,.str s),(2,.int .i64 n),(0,.int .i64 m),(0,.int .i64 (i : Nat))] 22) []) A = some (.ret (.int .i64 (depF n m t)),A):=by
  intro t
  induction t with
  | nil =>
    intro i n m ht hi h1 h2 h3 h4
    have hl:=drop_len ht
    unfold depF
    refine qbc (qbj (q13_0 ..) ?_)
    unfold n13_0;dsimp only
    (repeat' first | (with_reducible first | apply qai | apply qaa (b:=false) | apply qao) | ((conv=>arg 2;arg 1;simp only [Option.map_some,qar,lenStr_str,qa6,qbd,qbb]);(with_reducible first | apply qab | (apply qba;omega))))
    ((try conv=>arg 2;simp only [qac,qaj,qal,qae,List.take_length,qah,qad,qag]);refine qak ?_)
    rfl
  | cons c t ih =>
    intro i n m ht hi h1 h2 h3 h4
    have hl:=drop_lt ht
    have hx:=Vm.idxStr ht .i64
    unfold depF
    refine qbc (qbj (q13_0 ..) ?_)
    unfold n13_0;dsimp only
    by_cases hc : c.toNat = 40
    · rw [par_40 hc]
      have hih:=ih (i + 1) (n + 1) (max m (n + 1)) (qbt ht) (by omega) (by omega) (by omega) (by omega) (by omega)
      (repeat' first | (with_reducible first | (apply qbu;intro hkk hke) | (apply tot_jk;· assumption) | apply tp_gk | apply qaa (b:=true) | apply qaa (b:=false) | apply qaq | apply qao | (apply tot_eql_t;omega) | (apply tot_eql_f;omega)) | ((conv=>arg 2;arg 1;simp (disch:=first | omega | assumption) only [qa7,qa2,qal,lenStr_str,qa6,qbd,qbb,minmax_t,eg_0,eg_S,hx]);(with_reducible first | apply qab | apply qbi | (apply qa1;omega))))
      (refine qa8 ?_;(conv=>lhs;simp only [qaj,qbr,qbs,List.take_length,List.map_nil,qa6,qbd,qbb,eg_0,eg_S]);exact hih)
    · by_cases hc2 : c.toNat = 41
      · rw [par_41 hc2]
        have hih:=ih (i + 1) (n + -1) (max m (n + -1)) (qbt ht) (by omega) (by omega) (by omega) (by omega) (by omega)
        rw [← Int.sub_eq_add_neg] at hih ⊢
        (repeat' first | (with_reducible first | (apply qbu;intro hkk hke) | (apply tot_jk;· assumption) | apply tp_gk | apply qaa (b:=true) | apply qaa (b:=false) | apply qaq | apply qao | (apply tot_eql_t;omega) | (apply tot_eql_f;omega)) | ((conv=>arg 2;arg 1;simp (disch:=first | omega | assumption) only [qa7,binO_sub,qa2,qal,lenStr_str,qa6,qbd,qbb,minmax_t,eg_0,eg_S,hx]);(with_reducible first | apply qab | apply qbi | (apply qa1;omega))))
        (refine qa8 ?_;(conv=>lhs;simp only [qaj,qbr,qbs,List.take_length,List.map_nil,qa6,qbd,qbb,eg_0,eg_S]);exact hih)
      · rw [par_0 hc hc2,Int.add_zero]
        have hih:=ih (i + 1) n (max m n) (qbt ht) (by omega) (by omega) (by omega) (by omega) (by omega)
        (repeat' first | (with_reducible first | (apply qbu;intro hkk hke) | (apply tot_jk;· assumption) | apply tp_gk | apply qaa (b:=true) | apply qaa (b:=false) | apply qaq | apply qao | (apply tot_eql_f;omega)) | ((conv=>arg 2;arg 1;simp (disch:=first | omega | assumption) only [qa7,qa2,qal,lenStr_str,qa6,qbd,qbb,minmax_t,eg_0,eg_S,hx]);(with_reducible first | apply qab | apply qbi | (apply qa1;omega))))
        (refine qa8 ?_;(conv=>lhs;simp only [qaj,qbr,qbs,List.take_length,List.map_nil,qa6,qbd,qbb,eg_0,eg_S]);exact hih)
theorem s13 (s : Str) (hs : s.length ≤ 100000000) (A : St) : f13 (.str s) A = some (.ret (.int .i64 (depF 0 0 s)),A):=by
  have hlo:=s13_loop s hs A s 0 0 0 rfl (by omega) (by omega) (by omega) (by omega) (by omega)
  unfold f13 n13;dsimp only
  refine qbc ?_
  skip
  (refine qa8 ?_;(conv=>lhs;simp only []);exact hlo)
theorem printP_0 {l : List Iv} {s : Str} {n : Int} (h : printP l = (s,n,0)) : s.length ≤ 1048576 ∧ l.length ≤ 64 ∧ (∀ v,v ∈ l → ivForm v = 0):=by
  unfold printP at h
  split at h
  · simp at h
  · rcases printL_some l [] [] with ⟨h1,h2,h3,h4⟩ | ⟨h1,h2,h3,h4⟩
    · rw [h1] at h
      simp only [List.nil_append,Prod.mk.injEq,and_true] at h h2
      obtain ⟨rfl,-⟩:=h
      exact ⟨h2,by omega,h3⟩
    · rw [h] at h3;exact absurd rfl h3
theorem printP_e {l : List Iv} {s : Str} {n e : Int} (h : printP l = (s,n,e)) (he : ¬ e = 0) : s = [] ∧ 0 ≤ n ∧ (l.length ≤ 64 → (∀ v,v ∈ l → ivForm v = 0) → Fresh [] l → e = 2):=by
  unfold printP at h
  split at h
  · rename_i hq
    simp only [Prod.mk.injEq] at h
    obtain ⟨rfl,rfl,rfl⟩:=h
    exact ⟨rfl,by omega,fun h=>by omega⟩
  · rcases printL_some l [] [] with ⟨h1,h2,h3,h4⟩ | ⟨h1,h2,h3,h4⟩
    · rw [h1] at h
      simp only [Prod.mk.injEq] at h
      exact absurd h.2.2.symm he
    · rw [h] at h1 h2 h3 h4
      exact ⟨h1,h2,fun _=>h4⟩
theorem readP_0 {l : List Word} (hw : ∀ w,w ∈ l → w.t.length ≤ 100000000) (h : (readP l).2.2 = 0) : (readP l).1.check = 0:=by
  obtain ⟨x,hx⟩:=(ends hw (8 * l.length + 4)).alt 0 0 (by omega) (by omega)
  have hfc:=(facts hw (8 * l.length + 4)).alt 0 0 x (by omega) hx
  unfold readP at h ⊢
  rw [hx] at h ⊢
  rcases x with ⟨a,c⟩ | ⟨r,j⟩
  · have h2:=hfc.2.2
    dsimp only at h
    omega
  · dsimp only at h ⊢
    by_cases h1 : j < l.length
    · rw [if_pos h1] at h;exact absurd (show (90 : Int) = 0 from h) (by decide)
    · rw [if_neg h1] at h ⊢
      by_cases h2 : r.check = 0
      · rw [if_pos h2];exact h2
      · rw [if_neg h2] at h;exact absurd h h2
theorem lineP_right {l : List Word} (hl : LineOk l) {v : Iv} (h : lineP l = .ok v) : IvWell v ∧ ivForm v = 0:=by
  have hok:=lineP_ok hl h
  have hlen:=hl.len
  unfold lineP at h
  obtain ⟨i,h1,h⟩:=ex_bind h
  obtain ⟨x,h2,h⟩:=ex_bind h
  obtain ⟨i2,h3,h⟩:=ex_bind h
  obtain ⟨y,h4,h⟩:=ex_bind h
  obtain ⟨i3,h5,h⟩:=ex_bind h
  unfold tail1P at h
  obtain ⟨⟨ing,j⟩,h6,h⟩:=ex_bind h
  have hi3 : i3 ≤ l.length:=by
    unfold mustP at h5
    split at h5
    · rename_i hw
      cases h5
      exact qbw (by rw [hw];simp)
    · cases h5
  obtain ⟨r1,r2,r3,r4⟩:=ingP_right (l:=l) (l.length + 1 - i3) i3 [] ing j (by omega) hi3 List.Pairwise.nil (by simp) h6
  dsimp only at h
  unfold tail2P at h
  obtain ⟨i4,h7,h⟩:=ex_bind h
  obtain ⟨n,h8,h⟩:=ex_bind h
  unfold tail3P at h
  obtain ⟨i5,h9,h⟩:=ex_bind h
  obtain ⟨c,h10,h⟩:=ex_bind h
  obtain ⟨m,h11,h⟩:=ex_bind h
  unfold tail4P at h
  obtain ⟨i6,h12,h⟩:=ex_bind h
  obtain ⟨r,h13,h⟩:=ex_bind h
  cases h
  have nb : ∀ {mx : Int} {i : Nat} {q : Int × Nat},numberP l mx i = .ok q → 0 ≤ q.1 ∧ q.1 ≤ mx:=by
    intro mx i q h
    unfold numberP at h
    split at h
    · cases h
    · rename_i k hk
      split at h
      · cases h
      · cases h
        exact ⟨numP_nn hk,by omega⟩
  have a1 : isName x.1 = true ∧ x.1.length ≤ 10000000:=by
    unfold nameP at h2
    split at h2
    · rename_i hw
      cases h2
      exact ⟨hw,hl.at_ _⟩
    · cases h2
  have a2 : isCube y.1 = true ∧ y.1.length ≤ 10000000:=by
    unfold cubeP at h4
    split at h4
    · rename_i hw
      cases h4
      exact ⟨hw,hl.at_ _⟩
    · cases h4
  have a3 : 1 ≤ c.1 ∧ c.1 ≤ 3:=by
    unfold P.signP at h10
    split at h10
    · cases h10
    · rename_i hw
      cases h10
      exact signOf_in hw
  have a4 : r.check = 0:=by
    unfold pathP at h13
    split at h13
    · rename_i hq
      cases h13
      exact readP_0 (fun w hm=>hl.short w (List.mem_of_mem_drop hm)) hq
    · cases h13
  have a5 : risT none ing = true:=(risT_iff ing none).2 ⟨r2,r1,fun _ h=>by cases h⟩
  refine ⟨⟨hok,by have:=a1.2;dsimp only;omega,by have:=a2.2;dsimp only;omega,fun s hs=>?_⟩, ?_⟩
  · obtain ⟨c,t,rfl,hh,_⟩:=name_chars (r2 s hs)
    simp only [List.length_cons];omega
  · have e : ivRight ⟨x.1,y.1,ing,n.1,c.1,m.1,r⟩ = true:=by
      unfold ivRight
      simp only [Bool.and_eq_true,decide_eq_true_eq]
      exact ⟨⟨⟨⟨⟨⟨a1.1,a2.1⟩,r3,r4⟩,nb h8⟩,a3⟩,nb h11⟩,a5⟩
    unfold ivForm
    rw [if_pos e]
    exact a4
theorem Fresh_app : ∀ (a pre b : List Iv),Fresh pre (a ++ b) ↔ Fresh pre a ∧ Fresh (pre ++ a) b
  | [],pre,b=>by simp [Fresh]
  | x :: a,pre,b=>by
    simp only [List.cons_append,Fresh,Fresh_app a (pre ++ [x]) b,and_assoc,List.append_assoc,List.nil_append]
theorem rowsP_right : ∀ (rows : List (List Word)) (acc out : List Iv),(∀ r,r ∈ rows → LineOk r) → (∀ v,v ∈ acc → IvWell v ∧ ivForm v = 0) → acc.length ≤ 64 → Fresh [] acc → rowsP acc rows = .ok out → (∀ v,v ∈ out → IvWell v ∧ ivForm v = 0) ∧ out.length ≤ 64 ∧ Fresh [] out
  | [],acc,out,_,ha,hc,hf,h=>by cases h;exact ⟨ha,hc,hf⟩
  | l :: ls,acc,out,hw,ha,hc,hf,h=>by
    unfold rowsP at h
    split at h
    · cases h
    · rename_i v hv
      unfold addP at hv
      obtain ⟨u,h1,h2⟩:=ex_bind hv
      have hu:=lineP_right (hw l (by simp)) h1
      split at h2
      · cases h2
      · rename_i hk
        split at h2
        · cases h2
        · cases h2
          refine rowsP_right ls (acc ++ [v]) out (fun r hr=>hw r (List.mem_cons_of_mem _ hr)) (fun w hm=>?_) (by simp;omega) ((Fresh_app acc [] [v]).2 ⟨hf,by simpa using hk,trivial⟩) h
          rcases List.mem_append.1 hm with hm | hm
          · exact ha w hm
          · rw [List.mem_singleton.1 hm];exact hu
theorem s5_loop (l : List Iv) (hl : l.length ≤ 64) (hv : ∀ v,v ∈ l → IvWell v ∧ ivForm v = 0) (s : Str) (n : Int) (hp : printP l = (s,n,0)) (A : St) : ∀ (t : List Iv) (i : Nat),l.drop i = t →
    LP Tryz.prog rxA 5 [0,1,0,1,1,1,1,1,1] [A] (Env.mk (sp [(3,encL 9 (l.map encIv)),(3,.str s),(2,.int .i64 (i : Nat))] 57) []) A = some (.ret (.bool true),A):=by
  have hsh:=ivs_shut l 9
  intro t
  induction t with
  | nil =>
    intro i ht
    have h1:=drop_len ht
    obtain ⟨g1,g2,g3⟩:=printP_0 hp
    have hd:=fun A=>s13 s (by omega) A
    have h3:=ivs_canon l 9
    refine qbc (qbj (q5_0 ..) ?_)
    unfold n5_0;dsimp only
    by_cases h50 : depF 0 0 s ≤ 50
    · obtain ⟨-,rows,g4,g5⟩:=text_back l (fun v h=>(hv v h).1) hp h50
      have h2:=fun A=>s8 s g1 _ g4 (rows_ok g1 g4) A
      have e1 : ivD (ivP (.ok rows)) = .tup [encL 9 (l.map encIv),.int .i64 0,.int .i64 0,.int .i64 0]:=by
        show ivD (rowsP [] rows) = _
        rw [g5];rfl
      rw [e1] at h2
      have h4:=fun A=>s10 l g2 (fun v h=>(hv v h).1.ok) A
      (repeat' first | (with_reducible first | apply qab | apply qa4 | apply qbn | apply qat | apply qai | apply qaw (b:=true) | apply qaa (b:=true) | apply qaa (b:=false) | apply qao | apply tot_iftt | (apply tot_gtr_f;omega) | (apply tot_eql_t;omega)) | ((conv=>arg 2;arg 1;simp (disch:=first | omega | assumption) only [qbm,Option.map_some,qar,qa6,qbd,qbb,qap,qbl,List.length_map,ext0,extS,h3,r13,hd,r8,h2,r10,h4]);(with_reducible first | apply qab | (apply qba;omega))))
      ((try conv=>arg 2;simp only [qac,qa9,qal,qae,List.take_length,qa3,qad,qag]);refine qak ?_)
      rfl
    · (repeat' first | (with_reducible first | apply qat | apply qai | apply qaa (b:=true) | apply qaa (b:=false) | apply qaq | apply qao | (apply tot_gtr_t;omega)) | ((conv=>arg 2;arg 1;simp (disch:=first | omega | assumption) only [Option.map_some,qar,qa6,qbd,qbb,qap,qbl,List.length_map,r13,hd]);(with_reducible first | apply qab | (apply qba;omega))))
      ((try conv=>arg 2;simp only [qac,qa9,qal,qae,List.take_length,qa3,qad,qag]);refine qak ?_)
      rfl
  | cons v t ih =>
    intro i ht
    have h1:=drop_lt ht
    have hx:=idx_drop (f:=encIv) ht 9 true .i64
    have hcn : (encIv v).canon = encIv v:=(plainIv v).canon
    obtain ⟨hw,hf⟩:=hv v (drop_mem ht)
    have hfo:=fun A=>s14 v hw A
    rw [hf] at hfo
    refine qbc (qbj (q5_0 ..) ?_)
    unfold n5_0;dsimp only
    (repeat' first | (with_reducible first | apply qa4 | apply qat | apply tp_gk | apply qaa (b:=true) | apply qaa (b:=false) | apply qaq | apply qao | (apply tot_neq_t;omega)) | ((conv=>arg 2;arg 1;simp (disch:=first | omega | assumption) only [qa7,qa2,qal,qbg,qa6,qbd,qbb,qa0,qbl,List.length_map,hx,cellIv,ivcA,hcn,r14,hfo]);(with_reducible first | apply qab | apply qbi | (apply qa1;omega))))
    (refine qa8 ?_;(conv=>lhs;simp only [qaj,qbr,qbs,List.take_length,List.map_nil,qa6,qbd,qbb]);rw [hsh];have:=ih (i + 1) (qbt ht);exact this)
theorem law_again (s : Str) (hs : s.length < 4611686018427387904) (A : St) : f5 (.str s) A = some (.ret (.bool true),A):=by
  have key : ∃ (l : List Iv) (a b e : Int),(∀ v : Iv,v ∈ l → IvWell v ∧ ivForm v = 0) ∧ l.length ≤ 64 ∧ Fresh [] l ∧ (¬ e = 0 → l = []) ∧ ∀ A,f8 (.str s) A = some (.ret (.tup [encL 9 (l.map encIv),.int .i64 a,.int .i64 b,.int .i64 e]),A):=by
    by_cases hl : s.length ≤ 1048576
    · obtain ⟨x,hx⟩:=textP_some s
      have hr:=rows_ok hl hx
      have h1:=fun A=>s8 s hl x hx hr A
      cases hq : ivP x with
      | error p =>
        obtain ⟨a,b,e⟩:=p
        rw [hq] at h1
        exact ⟨[],a,b,e,by simp,by simp,trivial,fun _=>rfl,h1⟩
      | ok l =>
        rw [hq] at h1
        rcases x with ⟨p,c⟩ | rows
        · cases hq
        · obtain ⟨g1,g2,g3⟩:=rowsP_right rows [] l (hr rows rfl).2 (by simp) (by simp) trivial hq
          exact ⟨l,0,0,0,g1,g2,g3,fun h=>absurd rfl h,h1⟩
    · exact ⟨[],0,0,2,by simp,by simp,trivial,fun _=>rfl,fun A=>s8_long s hl hs A⟩
  obtain ⟨l,a,b,e,hv,hl,hf,he,h1⟩:=key
  have hcn:=ivs_canon l 9
  unfold f5 n5;dsimp only
  refine qbc ?_
  by_cases h0 : e = 0
  · have h2:=fun A=>s12 l (by omega) (fun v h=>(hv v h).1) A
    unfold printT at h2
    generalize hp : printP l = x at h2
    obtain ⟨t,n,f⟩:=x
    dsimp only at h2
    by_cases hf0 : f = 0
    · subst hf0
      have hlo:=s5_loop l hl hv t n hp A l 0 rfl
      (repeat' first | (with_reducible first | apply qat | apply qaa (b:=false) | apply qao | (apply tot_neq_t;omega)) | ((conv=>arg 2;arg 1;simp (disch:=first | omega | assumption) only [un_not,Bool.not_true,qap,ext0,extS,r8,h1,r12,hcn,h2,awake_is]);(with_reducible apply qab)))
      (refine qa8 ?_;(conv=>lhs;simp only []);exact hlo)
    · obtain ⟨rfl,g1,g2⟩:=printP_e hp hf0
      have:=g2 hl (fun v h=>(hv v h).2) hf
      subst this
      (repeat' first | (with_reducible first | apply qat | apply qai | apply qaa (b:=true) | apply qaa (b:=false) | apply qaq | apply qao | (apply tot_eql_t;omega) | (apply tot_neq_t;omega) | (apply tot_neq_f;omega)) | ((conv=>arg 2;arg 1;simp (disch:=first | omega | assumption) only [un_not,Bool.not_true,qap,ext0,extS,r8,h1,r12,hcn,h2,awake_is]);(with_reducible apply qab)))
      ((try conv=>arg 2;simp only [qac,qa9,qal,qae,List.take_length,qa3,qad,qag]);refine qak ?_)
      rfl
  · have:=he h0
    subst this
    (repeat' first | (with_reducible first | apply qat | apply qai | apply qaa (b:=true) | apply qaa (b:=false) | apply qaq | apply qao | (apply tot_eql_t;omega) | (apply tot_neq_f;omega)) | ((conv=>arg 2;arg 1;simp (disch:=first | omega | assumption) only [lenSl_sl,List.map_nil,List.length_nil,un_not,Bool.not_true,encL_nil,qap,ext0,extS,r8,h1,awake_is]);(with_reducible apply qab)))
    ((try conv=>arg 2;simp only [qac,qa9,qal,qae,List.take_length,qa3,qad,qag]);refine qak ?_)
    rfl
end Go.Vm.Rx

/- The law InvarAgain,called. -/
namespace Go.Vm.Rx
open Go Go.Proofs Go.Proofs.YtagmpieoalkneaaGreatDoor P
set_option maxRecDepth 100000
theorem call5 (w : World) (s0 : Str) (hs0 : s0.length ≤ 1048576) (args : Array Value) (ha : RepL (g0 w) w [.str s0] args.toList) :
    Calls Tryz.prog 5 args w fun e w'=>e = .returned (.bool true) ∧ Go.RowKit.Below w.heap.size w w':=by
  refine call_true Tryz.func5 (by kernel_rfl) (A':=[]) ?_ ha
  rw [r5,(show (D.str s0).canon = .str s0 from rfl)]
  exact law_again s0 (by omega) []
end Go.Vm.Rx
