/- RxS86, RxCall4 in one text. -/
import Derived.Test.YtagmpieoalkneaaGreatDoorRxS85
import Derived.Test.YtagmpieoalkneaaGreatDoorRxNR
set_option linter.all false
/- What is printed is parsed as itself;what is parsed may be,and stays. -/
namespace Go.Vm.Rx
open Go Go.Proofs P
set_option maxRecDepth 10000
set_option maxHeartbeats 4000000
theorem par_40 {c : UInt8} (h : c.toNat = 40) : par c = 1:=by unfold par;rw [if_pos h]
theorem par_41 {c : UInt8} (h : c.toNat = 41) : par c = -1:=by unfold par;rw [if_neg (by omega),if_pos h]
theorem par_0 {c : UInt8} (h : ¬ c.toNat = 40) (h2 : ¬ c.toNat = 41) : par c = 0:=by unfold par;rw [if_neg h,if_neg h2]
theorem s13_loop (s : Str) (hs : s.length ≤ 100000000) (A : St) : ∀ (t : Str) (i : Nat) (n m : Int),s.drop i = t → i ≤ s.length → -(i : Int) ≤ n → n ≤ i → 0 ≤ m → m ≤ i →
    LP Tryz.prog rxA 13 [0,1,0,1,1] [A] (Env.mk (sp [(0,.str s),(2,.int .i64 n),(0,.int .i64 m),(0,.int .i64 (i : Nat))] 22) []) A = some (.ret (.int .i64 (depF n m t)),A):=by
  intro t
  induction t with
  | nil =>
    intro i n m ht hi h1 h2 h3 h4
    have hl:=drop_len ht
    unfold depF
    refine qbf (qbl (q13_0 ..) ?_)
    unfold n13_0;dsimp only
    (repeat' first | (with_reducible first | apply qai | apply qaa (b:=false) | apply qao) | ((conv=>arg 2;arg 1;simp only [Option.map_some,qas,lenStr_str,qa5,qbe,qba]);(with_reducible first | apply qab | (apply qbc;omega))))
    ((try conv=>arg 2;simp only [qac,qaj,qal,qae,List.take_length,qah,qad,qag]);refine qak ?_)
    rfl
  | cons c t ih =>
    intro i n m ht hi h1 h2 h3 h4
    have hl:=drop_lt ht
    have hx:=Vm.idxStr ht .i64
    unfold depF
    refine qbf (qbl (q13_0 ..) ?_)
    unfold n13_0;dsimp only
    by_cases hc : c.toNat = 40
    · rw [par_40 hc]
      have hih:=ih (i + 1) (n + 1) (max m (n + 1)) (qbv ht) (by omega) (by omega) (by omega) (by omega) (by omega)
      (repeat' first | (with_reducible first | (apply qbu;intro hkk hke) | (apply tot_jk;· assumption) | apply tp_gk | apply qaa (b:=true) | apply qaa (b:=false) | apply qaq | apply qao | (apply tot_eql_t;omega) | (apply tot_eql_f;omega)) | ((conv=>arg 2;arg 1;simp (disch:=first | omega | assumption) only [qa7,qa2,qal,lenStr_str,qa5,qbe,qba,minmax_t,eg_0,eg_S,hx]);(with_reducible first | apply qab | apply qbk | (apply qa0;omega))))
      (refine qa9 ?_;(conv=>lhs;simp only [qaj,qbr,qbs,List.take_length,List.map_nil,qa5,qbe,qba,eg_0,eg_S]);exact hih)
    · by_cases hc2 : c.toNat = 41
      · rw [par_41 hc2]
        have hih:=ih (i + 1) (n + -1) (max m (n + -1)) (qbv ht) (by omega) (by omega) (by omega) (by omega) (by omega)
        rw [← Int.sub_eq_add_neg] at hih ⊢
        (repeat' first | (with_reducible first | (apply qbu;intro hkk hke) | (apply tot_jk;· assumption) | apply tp_gk | apply qaa (b:=true) | apply qaa (b:=false) | apply qaq | apply qao | (apply tot_eql_t;omega) | (apply tot_eql_f;omega)) | ((conv=>arg 2;arg 1;simp (disch:=first | omega | assumption) only [qa7,binO_sub,qa2,qal,lenStr_str,qa5,qbe,qba,minmax_t,eg_0,eg_S,hx]);(with_reducible first | apply qab | apply qbk | (apply qa0;omega))))
        (refine qa9 ?_;(conv=>lhs;simp only [qaj,qbr,qbs,List.take_length,List.map_nil,qa5,qbe,qba,eg_0,eg_S]);exact hih)
      · rw [par_0 hc hc2,Int.add_zero]
        have hih:=ih (i + 1) n (max m n) (qbv ht) (by omega) (by omega) (by omega) (by omega) (by omega)
        (repeat' first | (with_reducible first | (apply qbu;intro hkk hke) | (apply tot_jk;· assumption) | apply tp_gk | apply qaa (b:=true) | apply qaa (b:=false) | apply qaq | apply qao | (apply tot_eql_f;omega)) | ((conv=>arg 2;arg 1;simp (disch:=first | omega | assumption) only [qa7,qa2,qal,lenStr_str,qa5,qbe,qba,minmax_t,eg_0,eg_S,hx]);(with_reducible first | apply qab | apply qbk | (apply qa0;omega))))
        (refine qa9 ?_;(conv=>lhs;simp only [qaj,qbr,qbs,List.take_length,List.map_nil,qa5,qbe,qba,eg_0,eg_S]);exact hih)
theorem s13 (s : Str) (hs : s.length ≤ 100000000) (A : St) : f13 (.str s) A = some (.ret (.int .i64 (depF 0 0 s)),A):=by
  have hlo:=s13_loop s hs A s 0 0 0 rfl (by omega) (by omega) (by omega) (by omega) (by omega)
  unfold f13 n13;dsimp only
  refine qbf ?_
  skip
  (refine qa9 ?_;(conv=>lhs;simp only []);exact hlo)
theorem printP_0 {l : List Iv} {s : Str} {n : Int} (h : printP l = (s,n,0)) : s.length ≤ 1048576 ∧ l.length ≤ 64 ∧ (∀ v,v ∈ l → ivForm v = 0):=by
  unfold printP at h
  split at h
  · simp at h
  · rcases printL_some l [] [] with ⟨h1,h2,h3,h4⟩ | ⟨h1,h2,h3,h4⟩
    · rw [h1] at h
      simp only [List.nil_append,Prod.mk.injEq,and_true] at h h2
      obtain ⟨rfl,-⟩:=h
      exact ⟨h2,by omega,h3⟩
    · rw [h] at h3;exact absurd rfl h3
theorem printP_e {l : List Iv} {s : Str} {n e : Int} (h : printP l = (s,n,e)) (he : ¬ e = 0) : s = [] ∧ 0 ≤ n ∧ (l.length ≤ 64 → (∀ v,v ∈ l → ivForm v = 0) → Fresh [] l → e = 2):=by
  unfold printP at h
  split at h
  · rename_i hq
    simp only [Prod.mk.injEq] at h
    obtain ⟨rfl,rfl,rfl⟩:=h
    exact ⟨rfl,by omega,fun h=>by omega⟩
  · rcases printL_some l [] [] with ⟨h1,h2,h3,h4⟩ | ⟨h1,h2,h3,h4⟩
    · rw [h1] at h
      simp only [Prod.mk.injEq] at h
      exact absurd h.2.2.symm he
    · rw [h] at h1 h2 h3 h4
      exact ⟨h1,h2,fun _=>h4⟩
theorem law_back (l : List Iv) (hl : l.length ≤ 100000000) (hv : ∀ v,v ∈ l → IvWell v) (A : St) : f4 (encL 9 (l.map encIv)) A = some (.ret (.bool true),A):=by
  have h1:=fun A=>s12 l hl hv A
  have h3:=ivs_canon l 9
  unfold printT at h1
  generalize hp : printP l = x at h1
  obtain ⟨s,n,e⟩:=x
  dsimp only at h1
  unfold f4 n4;dsimp only
  refine qbf ?_
  by_cases he : e = 0
  · subst he
    obtain ⟨g1,g2,g3⟩:=printP_0 hp
    have hd:=fun A=>s13 s (by omega) A
    by_cases h50 : depF 0 0 s ≤ 50
    · obtain ⟨-,rows,g4,g5⟩:=text_back l hv hp h50
      have h2:=fun A=>s8 s g1 _ g4 (rows_ok g1 g4) A
      have e1 : ivD (ivP (.ok rows)) = .tup [encL 9 (l.map encIv),.int .i64 0,.int .i64 0,.int .i64 0]:=by
        show ivD (rowsP [] rows) = _
        rw [g5];rfl
      rw [e1] at h2
      have h4:=fun A=>s10 l g2 (fun v h=>(hv v h).ok) A
      (repeat' first | (with_reducible first | apply qab | apply qa4 | apply qbm | apply qat | apply qai | apply qau (b:=true) | apply qaa (b:=true) | apply qaa (b:=false) | apply qao | apply tot_iftt | (apply tot_gtr_f;omega) | (apply tot_eql_t;omega) | (apply tot_neq_t;omega)) | ((conv=>arg 2;arg 1;simp (disch:=first | omega | assumption) only [qbi,un_not,Bool.not_true,qap,ext0,extS,r12,h3,h1,r13,hd,r8,h2,r10,h4,awake_is]);(with_reducible first | apply qab | apply qau (b:=true) | apply qaa (b:=true))))
      ((try conv=>arg 2;simp only [qbi,qac,qa8,qal,qae,List.take_length,qa3,qad,qag]);refine qak ?_)
      rfl
    · (repeat' first | (with_reducible first | apply qat | apply qai | apply qaa (b:=true) | apply qaa (b:=false) | apply qaq | apply qao | (apply tot_gtr_t;omega) | (apply tot_neq_t;omega)) | ((conv=>arg 2;arg 1;simp (disch:=first | omega | assumption) only [un_not,Bool.not_true,qap,ext0,extS,r12,h3,h1,r13,hd,awake_is]);(with_reducible apply qab)))
      ((try conv=>arg 2;simp only [qac,qa8,qal,qae,List.take_length,qa3,qad,qag]);refine qak ?_)
      rfl
  · obtain ⟨rfl,g1,-⟩:=printP_e hp he
    (repeat' first | (with_reducible first | apply qab | apply qa4 | apply qbm | apply qat | apply qai | apply qau (b:=true) | apply qaa (b:=true) | apply qaa (b:=false) | apply qaq | apply qao | apply tot_iftt | (apply tot_geq_t;omega) | (apply tot_neq_f;omega) | (apply tot_seql_t;first | assumption | with_reducible rfl)) | ((conv=>arg 2;arg 1;simp (disch:=first | omega | assumption) only [un_not,Bool.not_true,ext0,extS,r12,h3,h1,awake_is]);(with_reducible apply qab)))
    ((try conv=>arg 2;simp only [qbi,qac,qa8,qal,qae,List.take_length,qa3,qad,qag]);refine qak ?_)
    simp <;> omega
end Go.Vm.Rx

/- The law InvarBack,called. -/
namespace Go.Vm.Rx
open Go Go.Proofs Go.Proofs.YtagmpieoalkneaaGreatDoor P
set_option maxRecDepth 100000
theorem call4 (w : World) (d0 : D) (p0 : List Iv) (hd0 : d0.canon = encL 9 (p0.map encIv)) (hl0 : p0.length ≤ 1048576) (hp0 : ∀ w,w ∈ p0 → IvB 1048576 w) (args : Array Value) (ha : RepL (g0 w) w [d0] args.toList) :
    Calls Tryz.prog 4 args w fun e w'=>e = .returned (.bool true) ∧ Go.RowKit.Below w.heap.size w w':=by
  refine call_true Tryz.func4 (by kernel_rfl) (A':=[]) ?_ ha
  rw [r4,hd0]
  exact law_back p0 (by omega) (fun v h=>(hp0 v h).well (by omega)) []
end Go.Vm.Rx
