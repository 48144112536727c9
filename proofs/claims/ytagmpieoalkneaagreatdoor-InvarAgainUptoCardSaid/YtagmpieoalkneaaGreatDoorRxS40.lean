/- RxS39, RxS40 in one text. -/
import Derived.Test.YtagmpieoalkneaaGreatDoorRxS38
import Derived.Test.YtagmpieoalkneaaGreatDoorRxS13
set_option linter.all false
/- The words of an expression: the reference's text. -/
namespace Go.Vm.Rx
open Go Go.Proofs P
set_option maxRecDepth 10000
set_option maxHeartbeats 2000000
theorem s123 (r : Rx) (hr : r.Ok) (A : St) : f123 (encRx r) A = some (.ret (.int .i64 (r.binds : Nat)),A):=by
  have hl:=hr.len
  unfold f123 n123 Rx.binds; dsimp only
  refine qbc ?_
  by_cases h5 : r.op = 5
  · rw [if_pos h5]
    (repeat' first | (with_reducible first | apply qa4 | apply qai | apply qaa (b:=true) | apply qaq | (apply tot_eql_t; omega)) | ((conv => arg 2; arg 1; simp (disch:=first | omega | assumption) only [qaf,qa5,Nat.add_zero,qbp,ldc0,rx_box]); (with_reducible apply qab)))
    ((try conv => arg 2; simp (disch:=first | omega | assumption) only [qac,qaj,qaz,qae,qah,qad,qag,List.take_left']); refine qak ?_)
    rfl
  · rw [if_neg h5]
    by_cases h4 : r.op = 4
    · by_cases h0 : r.ks = []
      · rw [if_neg (fun e => e.2 h0)]
        have h1 : r.ks.length = 0:=by rw [h0]; rfl
        (repeat' first | (with_reducible first | apply qa4 | apply qbn | apply qai | apply qaw (b:=true) | apply qaa (b:=true) | apply qaa (b:=false) | apply qao | apply tot_iftt | (apply tot_gtr_f; omega) | (apply tot_eql_t; omega) | (apply tot_eql_f; omega)) | ((conv => arg 2; arg 1; simp (disch:=first | omega | assumption) only [qbm,qaf,qa5,ofCellsS,Nat.zero_add,Nat.add_zero,qbl,qbp,ldc0,List.length_map,rx_box]); (with_reducible first | apply qab | apply qaa (b:=false))))
        ((try conv => arg 2; simp (disch:=first | omega | assumption) only [qac,qaj,qaz,qae,qah,qad,qag,List.take_left']); refine qak ?_)
        rfl
      · rw [if_pos ⟨h4,h0⟩]
        have h1 : 0 < r.ks.length:=List.length_pos_iff.2 h0
        (repeat' first | (with_reducible first | apply qa4 | apply qbn | apply qai | apply qaw (b:=true) | apply qaa (b:=true) | apply qaa (b:=false) | apply qaq | apply qao | apply tot_iftt | (apply tot_gtr_t; omega) | (apply tot_eql_t; omega) | (apply tot_eql_f; omega)) | ((conv => arg 2; arg 1; simp (disch:=first | omega | assumption) only [qbm,qaf,qa5,ofCellsS,Nat.zero_add,Nat.add_zero,qbl,qbp,ldc0,List.length_map,rx_box]); (with_reducible first | apply qab | apply qaa (b:=true))))
        ((try conv => arg 2; simp (disch:=first | omega | assumption) only [qac,qaj,qaz,qae,qah,qad,qag,List.take_left']); refine qak ?_)
        rfl
    · rw [if_neg (fun e => h4 e.1)]
      (repeat' first | (with_reducible first | apply qab | apply qa4 | apply qbn | apply qai | apply qaw (b:=false) | apply qaa (b:=false) | apply qao | apply tot_ifft | (apply tot_eql_f; omega)) | ((conv => arg 2; arg 1; simp (disch:=first | omega | assumption) only [qbf,qaf,qa5,Nat.add_zero,qbp,ldc0,rx_box]); (with_reducible first | apply qab | apply qaa (b:=false))))
      ((try conv => arg 2; simp (disch:=first | omega | assumption) only [qac,qaj,qaz,qae,qah,qad,qag,List.take_left']); refine qak ?_)
      rfl
theorem body_dev {r : Rx} (h : r.op = 1) : r.body = [r.nm]:=by
  obtain ⟨op,nm,ks⟩:=r
  cases (h : op = 1)
  rfl
theorem body_cls {r : Rx} (h : r.op = 2) : r.body = [[36],r.nm]:=by
  obtain ⟨op,nm,ks⟩:=r
  cases (h : op = 2)
  rfl
theorem body_any {r : Rx} (h : r.op = 3) : r.body = [[46]]:=by
  obtain ⟨op,nm,ks⟩:=r
  cases (h : op = 3)
  rfl
theorem body_emp {r : Rx} (h : r.op = 4) (h2 : r.ks = []) : r.body = [[40],[41]]:=by
  obtain ⟨op,nm,ks⟩:=r
  cases (h : op = 4)
  cases (h2 : ks = [])
  rfl
theorem body_seq {r : Rx} (h : r.op = 4) (h2 : r.ks ≠ []) : r.body = Rx.seqs r.ks:=by
  obtain ⟨op,nm,ks⟩:=r
  cases (h : op = 4)
  cases ks with
  | nil => exact absurd rfl h2
  | cons k ks => rfl
theorem body_alt {r : Rx} (h : r.op = 5) : r.body = Rx.alts r.ks:=by
  obtain ⟨op,nm,ks⟩:=r
  cases (h : op = 5)
  rfl
theorem body_rep {r k : Rx} (h : r.op = 6 ∨ r.op = 7 ∨ r.op = 8) (h2 : r.ks = [k]) : r.body = k.say 3 ++ [markOf r.op]:=by
  obtain ⟨op,nm,ks⟩:=r
  cases (h2 : ks = [k])
  rcases h with h | h | h
  · cases (h : op = 6); rfl
  · cases (h : op = 7); rfl
  · cases (h : op = 8); rfl
def RSpec (r : Rx) (c : Nat) (a b : Int) : Prop:=∀ A,Tot (RowOut A 1 ((r.say c).map .str)) (f125 (encRx r) (.int .i64 a) (.int .i64 b) A)
theorem RSpec.get {r : Rx} {c : Nat} {a b : Int} (h : RSpec r c a b) (A : St) : ∃ o,AccOk o 1 ((r.say c).map .str) ∧ f125 (encRx r) (.int .i64 a) (.int .i64 b) A = some (.ret (accD o A.length 1 ((r.say c).map .str)),accA o A ((r.say c).map .str)):=by
  obtain ⟨_,h1,o,ho,rfl⟩:=h A
  exact ⟨o,ho,h1⟩
theorem say_len (r : Rx) (c : Nat) : (r.say c).length ≤ 5 * r.size:=by
  have h1:=Rx.body_len r
  have h2:=wrap_len c r r.body
  unfold Rx.say
  omega
theorem kid_size {r k : Rx} (h : k ∈ r.ks) : k.size < r.size:=by
  have:=ins_kid h
  have h1:=Rx.size_eq r
  have hp:=Rx.size_pos k
  unfold Rx.ins at this
  split at this
  · rename_i e; rw [e] at h; cases h
  · omega
end Go.Vm.Rx

/- The words of an expression: all of the reference's text. -/
namespace Go.Vm.Rx
open Go Go.Proofs P
set_option maxRecDepth 10000
set_option maxHeartbeats 4000000
theorem lit_out {A L : St} {s0 : Slot} (ws : List Str) : Tot (RowOut A 1 (ws.map .str)) (leaveD RetK.own A (.ret (.sl .full 1 (ws.map .str))) (A ++ s0 :: L)):=(Grow.lit A s0 1 L (ws.map .str)).out (plainStrs ws)
theorem say_wrap {r : Rx} {c : Nat} (h : r.binds < c) : r.say c = [[40]] ++ r.body ++ [[41]]:=by unfold Rx.say wrapR; rw [if_pos h]; rfl
theorem say_bare {r : Rx} {c : Nat} (h : ¬ r.binds < c) : r.say c = r.body:=by unfold Rx.say wrapR; rw [if_neg h]
end Go.Vm.Rx
