/- VmSt, VmSt2 in one text. -/
import Derived.Test.YtikjlgcbcljehaaGreatDoorVmSimp
set_option linter.all false
/- Slots that are written again and again, and new slots behind a store. -/
namespace Go.Vm
open Go.RowKit
set_option linter.unusedVariables false

/-- slot k has such cells -/
def st (A : St) (k : Nat) (cs : List D) : St := A.set k (.cells cs)
/-! new slots -/
theorem app_one (A L : St) (s : Slot) : (A ++ L) ++ [s] = A ++ (L ++ [s]) := List.append_assoc ..
theorem app_nil' (s : Slot) : ([] : St) ++ [s] = [s] := rfl
theorem app_cons' (a s : Slot) (L : St) : (a :: L) ++ [s] = a :: (L ++ [s]) := rfl
section
variable {g : Bool} {n off : Nat} {A L : St} {cs : List D} {s0 s1 s2 s3 : Slot} {d : D}
theorem ld_at {i : Nat} (h : L[i]? = some (.cells cs)) : loadO g n (.ref (A.length + i) off) (A ++ L) = ofCells g cs off n := by
  refine load_ref ?_
  rw [List.getElem?_append_right (by omega)]
  simpa using h
theorem ld0 : loadO g n (.ref A.length off) (A ++ (.cells cs :: L)) = ofCells g cs off n := ld_at (i := 0) rfl
theorem ld_old {k : Nat} (hk : k < A.length) : loadO g n (.ref k off) (A ++ L) = loadO g n (.ref k off) A := by
  simp only [loadO]
  rw [List.getElem?_append_left hk]
end
/-! one cell laid -/
/-! texts -/
theorem idxStr {s : List UInt8} {i : Nat} {c : UInt8} {t : List UInt8} (h : s.drop i = c :: t) (k : IntKind) : indexStrO (.str s) (.int k (i : Int)) = some (.int .u8 (c.toNat : Int)) := by
  have hl : i < s.length := by
    have := congrArg List.length h
    simp at this; omega
  have hc : s[i]? = some c := by
    have := congrArg (fun l => l[0]?) h
    simpa using this
  simp [indexStrO, D.str?, D.int?, hc]
theorem idxStr0 (c : UInt8) (t : List UInt8) (k : IntKind) : indexStrO (.str (c :: t)) (.int k 0) = some (.int .u8 (c.toNat : Int)) := idxStr (i := 0) rfl k
theorem drop_lt {α : Type} {s t : List α} {i : Nat} {c : α} (h : s.drop i = c :: t) : i < s.length := by
  have := congrArg List.length h
  simp at this; omega
theorem drop_succ {α : Type} {s t : List α} {i : Nat} {c : α} (h : s.drop i = c :: t) : s.drop (i + 1) = t := by
  rw [← List.drop_drop, h]; rfl
theorem drop_len {α : Type} {s : List α} {i : Nat} (h : s.drop i = []) : s.length ≤ i := by simpa using h
theorem Run_ext (P : Program) (H : Ext0) {f : FuncId} (hf : Nat.beq f rOff = false) {x : List D → St → ORes} (hx : H.ext f = some x) (args : List D) (A : St) : Run P H f args A = x args A := by
  rw [Run_eq]
  unfold bodyD
  rw [hf, hx]
  rfl
/-! a row that grows: none: it has room of its own; some e: it has none, and its elements' size stands as e -/
def accD (b : Option Nat) (c n : Nat) (ds : List D) : D := match b with | none => .sl (.own c 0) n ds | some e => .sl .full e ds
def accA (b : Option Nat) (A : St) (ds : List D) : St := match b with | none => A ++ [.tok ds.length] | some _ => A
def AccOk (b : Option Nat) (n : Nat) (ds : List D) : Prop := b = none ∨ b = some n ∨ (b = some 0 ∧ ds = [])
def accNext (b : Option Nat) (n : Nat) (new : List D) : Option Nat := match b with | none => none | some _ => match new with | [] => some n | _ :: _ => none
theorem AccOk.nil (n : Nat) : AccOk (some 0) n [] := .inr (.inr ⟨rfl, rfl⟩)
theorem AccOk.full (n : Nat) (ds : List D) : AccOk (some n) n ds := .inr (.inl rfl)
theorem AccOk.own (n : Nat) (ds : List D) : AccOk none n ds := .inl rfl
theorem AccOk.next {b : Option Nat} {n : Nat} {ds : List D} (h : AccOk b n ds) (new : List D) : AccOk (accNext b n new) n (ds ++ new) := by
  cases b with
  | none => exact .own _ _
  | some e => cases new with
    | nil => exact .full _ _
    | cons d new => exact .own _ _
theorem app_acc {b : Option Nat} {n w : Nat} {A : St} {ds new : List D} {y : D} (hb : AccOk b n ds) (hy : appendNew n y = some new) (hl : ds.length + new.length ≤ 1000000000) (hw : w ≤ 100000) :
    appendO n w (accD b A.length n ds) y (accA b A ds) = some (accD (accNext b n new) A.length n (ds ++ new), accA (accNext b n new) A (ds ++ new)) := by
  have hr : roomOk (ds.length + new.length) w = true := by
    simp only [roomOk, decide_eq_true_eq]
    have := Nat.mul_le_mul hl hw
    omega
  cases b with
  | none =>
    simp only [accD, accA, accNext]
    rw [append_own (s0 := 0) hy (by simp) hr (by omega)]
    simp
  | some e =>
    have hes : esOk .full e n ds = true := by
      rcases hb with h | h | ⟨h, h2⟩
      · cases h
      · cases h; simp [esOk]
      · subst h2; simp [esOk, Own.isOwn]
    have hl' : ds.length + new.length ≤ 9223372036854775807 := by omega
    cases new with
    | nil =>
      simp only [accD, accA, accNext, List.append_nil]
      simp only [List.length_nil, Nat.add_zero] at hr hl'
      simp [appendO, appendS, hy, hr, hl', hes]
    | cons d new =>
      simp only [accD, accA, accNext]
      simp only [List.length_cons] at hr hl'
      simp [appendO, appendS, hy, hr, hl', hes]
theorem app_acc1 {b : Option Nat} {n w : Nat} {A : St} {ds : List D} {d : D} (hb : AccOk b n ds) (hl : ds.length + 1 ≤ 1000000000) (hw : w ≤ 100000) :
    appendO n w (accD b A.length n ds) (.sl .full n [d]) (accA b A ds) = some (accD none A.length n (ds ++ [d]), accA none A (ds ++ [d])) := by
  rw [app_acc (new := [d]) hb (by simp [appendNew, esOk]) hl hw]
  cases b <;> rfl
theorem acc_shut {b : Option Nat} {c n m : Nat} {ds : List D} (hb : AccOk b n ds) (h : PlainL ds) : ((accD b c n ds).shut m).canon = encL n ds := by
  cases b with
  | none => unfold accD; simp only [shut_sl, h.shut]; exact canon_sl h _ _
  | some e =>
    unfold accD; simp only [shut_sl, h.shut]
    rcases hb with hb | hb | ⟨hb, h2⟩
    · cases hb
    · cases hb; exact canon_sl h _ _
    · subst h2; rfl
theorem sparts_str (s : List UInt8) : sliceParts 1 false 0 [(0, .str s)] = some [.str s] := rfl
theorem ext0 (a : D) (l : List D) : extractD (.tup (a :: l)) 0 = some a := rfl
theorem extS (a : D) (l : List D) (n : Nat) : extractD (.tup (a :: l)) (n + 1) = extractD (.tup l) n := rfl
/-! slots behind a store, by their number -/
section
variable {g : Bool} {n off i : Nat} {A L : St} {cs : List D} {s : Slot} {d : D}
theorem ld_sh : loadO g n (.ref (A.length + i) off) (A ++ L) = loadO g n (.ref i off) L := by
  simp only [loadO]
  rw [List.getElem?_append_right (by omega)]
  simp
theorem ld_sh0 : loadO g n (.ref A.length off) (A ++ L) = loadO g n (.ref 0 off) L := ld_sh (i := 0)
theorem ldc0 : loadO g n (.ref 0 off) (.cells cs :: L) = ofCells g cs off n := by simp [loadO]
theorem ldcS : loadO g n (.ref (i + 1) off) (s :: L) = loadO g n (.ref i off) L := by simp [loadO]
theorem sto_sh : storeO g n (.ref (A.length + i) off) d (A ++ L) = mp (storeO g n (.ref i off) d L) fun L' => A ++ L' := by
  unfold storeO mp
  cases d.cellsT g with
  | none => rfl
  | some vs =>
    have e : (A ++ L)[A.length + i]? = L[i]? := by
      rw [List.getElem?_append_right (by omega)]
      simp
    simp only [Option.bind_some, e]
    cases L[i]? with
    | none => rfl
    | some s =>
      cases s with
      | cells cs =>
        simp only [Option.bind_some]
        split
        · simp
        · rfl
      | _ => rfl
theorem sto_sh0 : storeO g n (.ref A.length off) d (A ++ L) = mp (storeO g n (.ref 0 off) d L) fun L' => A ++ L' := sto_sh (i := 0)
theorem stoc0 : storeO g n (.ref 0 off) d (.cells cs :: L) = mp (layCells g n off cs d) fun cs' => .cells cs' :: L := by
  unfold storeO layCells mp
  cases d.cellsT g with
  | none => rfl
  | some vs =>
    simp only [Option.bind_some, List.getElem?_cons_zero]
    split
    · simp
    · rfl
end
theorem idx_drop {α : Type} {f : α → D} {l : List α} {i : Nat} {x : α} {t : List α} (h : l.drop i = x :: t) (n : Nat) (g : Bool) (k : IntKind) : indexAddrO n g (encL n (l.map f)) (.int k (i : Int)) = mp ((f x).cellsT g) .peek := by
  have hl := drop_lt h
  rw [idx_map hl]
  have : l[i] = x := by
    have := congrArg (fun l => l[0]?) h
    simpa [List.getElem?_eq_getElem hl] using this
  rw [this]
theorem neq_tt (n : Bool) : binO .neq 0 n (.bool true) (.bool true) = some (.bool false) := rfl
theorem neq_tf (n : Bool) : binO .neq 0 n (.bool true) (.bool false) = some (.bool true) := rfl
theorem neq_ft (n : Bool) : binO .neq 0 n (.bool false) (.bool true) = some (.bool true) := rfl
theorem neq_ff (n : Bool) : binO .neq 0 n (.bool false) (.bool false) = some (.bool false) := rfl
theorem app_fn (call : CallT) (f : FuncId) (a b xs : List D) (A : St) : applyD call (.fn (.func f) a b) xs A = call f (a ++ xs ++ b) A := rfl
theorem minmax_t (k : IntKind) (a b : Int) : minMaxD true [.int k a, .int k b] = some (.int k (max a b)) := by simp [minMaxD]
theorem Kept_app2 (A L M : St) : Kept (A ++ L) (A ++ (L ++ M)) ↔ True := by rw [← List.append_assoc]; exact qar _ _
theorem take_app2 (A L M : St) : (A ++ (L ++ M)).take (A.length + L.length) = A ++ L := by
  rw [← List.append_assoc, ← List.length_append]; exact List.take_left ..
theorem take_n1 (A L : St) (a : Slot) : (A ++ (a :: L)).take (A.length + 1) = A ++ [a] := take_app2 A [a] L
theorem take_n2 (A L : St) (a b : Slot) : (A ++ (a :: b :: L)).take (A.length + 2) = A ++ [a, b] := take_app2 A [a, b] L
theorem dT {p : Prop} {dp : Decidable p} (h : p) : @decide p dp = true := decide_eq_true h
theorem dF {p : Prop} {dp : Decidable p} (h : ¬ p) : @decide p dp = false := decide_eq_false h
theorem iT {α : Type} {p : Prop} {dp : Decidable p} {x y : α} (h : p) : @ite α p dp x y = x := if_pos h
theorem iF {α : Type} {p : Prop} {dp : Decidable p} {x y : α} (h : ¬ p) : @ite α p dp x y = y := if_neg h
end Go.Vm

/- Growing rows and written slots together. -/
namespace Go.Vm
open Go.RowKit
set_option linter.unusedVariables false
section
variable {b : Option Nat} {g : Bool} {n w off k j : Nat} {A L : St} {ds cs cs' : List D} {s0 s1 s2 : Slot} {d : D}
/-! with a slot that is written -/
end
end Go.Vm
