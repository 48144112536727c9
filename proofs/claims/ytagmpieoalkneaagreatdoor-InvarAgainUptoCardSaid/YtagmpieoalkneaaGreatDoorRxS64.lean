/- RxS63, RxS64 in one text. -/
import Derived.Test.YtagmpieoalkneaaGreatDoorRxS62
set_option linter.all false
/- The reference's reader of a line: its small functions. -/
namespace Go.Vm.Rx
open Go Go.Proofs P
set_option maxRecDepth 10000
set_option maxHeartbeats 2000000
section
variable (l : List Word) (i ln cl b x : Int)
end
end Go.Vm.Rx

/- The reference's reader of a line: names that rise,a sign. -/
namespace Go.Vm.Rx
open Go Go.Proofs P
set_option maxRecDepth 10000
set_option maxHeartbeats 2000000
def ivC (v : Iv) : List D:=[.str v.nm,.str v.pk,encL 1 (v.ing.map .str),.int .i64 v.hops,.int .i64 v.cmp,.int .i64 v.cnt,.int .i64 v.path.op,.str v.path.nm,encL 3 (v.path.ks.map encRx)]
def encIv (v : Iv) : D:=.agg (ivC v)
theorem plainStr (l : List Str) : PlainL (l.map .str):=PlainL.map (fun s => ⟨fun _ => rfl,rfl⟩) l
theorem str_canon (l : List Str) (n : Nat) : (encL n (l.map .str)).canon = encL n (l.map .str):=(encL_plain (plainStr l) n).canon
theorem str_shut (l : List Str) (n m : Nat) : (encL n (l.map .str)).shut m = encL n (l.map .str):=(encL_plain (plainStr l) n).shut m
theorem plainIv (v : Iv) : Plain (encIv v):=by
  refine ⟨fun n => ?_, ?_⟩
  · simp [encIv,ivC,str_shut,rxs_shut,D.shut]
  · simp [encIv,ivC,D.canon,D.canonL,str_canon,rxs_canon]
theorem plainIvs (l : List Iv) : PlainL (l.map encIv):=PlainL.map plainIv l
theorem cellIv (v : Iv) : (encIv v).cellsT true = some (ivC v):=by
  have : allCells (ivC v) = true:=by simp [ivC,allCells,D.cell?,encL]
  simp [encIv,D.cellsT,D.agg?,this]
theorem slss (n : Nat) (b : Bool) (x s : Str) : binO .lss n b (.str x) (.str s) = some (.bool (decide (x < s))):=by
  show some (D.bool (Op.bytesLess x s)) = _
  rw [Go.Proofs.bytesLess_eq]
theorem encL_cons {α : Type} (f : α → D) (n : Nat) (x : α) (l : List α) : encL n ((x :: l).map f) = .sl .sh n ((x :: l).map f):=rfl
theorem from_enc {α : Type} (f : α → D) (n : Nat) (hn : n ≠ 0) (hp : ∀ l : List α,PlainL (l.map f)) (l : List α) (i : Nat) (h : i ≤ l.length) : ∃ y,sliceSlO n (encL n (l.map f)) (some (.int .i64 (i : Int))) none none = some y ∧ appendNew n y = some ((l.drop i).map f) ∧ y.canon = encL n ((l.drop i).map f):=by
  cases l with
  | nil =>
    have : i = 0:=by simpa using h
    subst this
    refine ⟨.sl .sh n [], ?_, ?_,rfl⟩
    · have e : esOk .sh 0 n [] = true:=by simp [esOk,Own.isOwn]
      simp only [List.map_nil,encL,sliceSlO,optInt,D.int?,Option.map_some,Option.bind_some,e,hn,ne_eq,not_false_eq_true,and_self,if_true]
      rfl
    · have e : esOk .sh n n [] = true:=by simp [esOk,Own.isOwn]
      simp only [List.drop_nil,List.map_nil,appendNew,e]
      rfl
  | cons x l =>
    simp only [List.length_cons] at h
    refine ⟨.sl .sh n (((x :: l).drop i).map f), ?_, ?_,canon_sl (hp _) _ _⟩
    · have e : esOk .sh n n ((x :: l).map f) = true:=by simp [esOk]
      rw [encL_cons]
      simp only [sliceSlO,optInt,D.int?,Option.map_some,Option.bind_some,e,hn,ne_eq,not_false_eq_true,and_self,if_true,sliceSl,Option.getD_none,Option.getD_some,List.length_map,List.length_cons]
      rw [if_pos ⟨by omega,by omega,by omega,by omega,by simp⟩]
      simp only [sliceOwn,Int.toNat_natCast,List.map_drop]
      rw [List.take_of_length_le (by simp)]
      simp
    · simp [appendNew,esOk]
end Go.Vm.Rx
