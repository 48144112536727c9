/- How the operations on data come out: rows for simp. -/
import Derived.Test.YtkhcbemdcehkdaaVmK
set_option linter.all false
namespace Go.Vm
open Go.RowKit
set_option linter.unusedVariables false

@[simp] theorem qaz (b : Bool) : (D.bool b).bool? = some b := rfl
@[simp] theorem qat (w b : Bool) : guardB w (.bool b) = some (b == w) := rfl
@[simp] theorem qaj (w : Bool) : guardB w (.tup []) = some false := rfl
theorem qcz (n : Nat) (l : Bool) (k : IntKind) (a b : Int) : binO .add n l (.int k a) (.int k b) = some (.int k (k.wrap (a + b))) := by simp [binO, intBinD]
theorem qcr (n : Nat) (l : Bool) (k : IntKind) (a b : Int) : binO .sub n l (.int k a) (.int k b) = some (.int k (k.wrap (a - b))) := by simp [binO, intBinD]
theorem qct (n : Nat) (l : Bool) (k : IntKind) (a b : Int) : binO .mul n l (.int k a) (.int k b) = some (.int k (k.wrap (a * b))) := by simp [binO, intBinD]
theorem qcu (n : Nat) (l : Bool) (k : IntKind) (a b : Int) : binO .lss n l (.int k a) (.int k b) = some (.bool (decide (a < b))) := by simp [binO, intBinD]
theorem qcv (n : Nat) (l : Bool) (k : IntKind) (a b : Int) : binO .leq n l (.int k a) (.int k b) = some (.bool (decide (a ≤ b))) := by simp [binO, intBinD]
theorem qcw (n : Nat) (l : Bool) (k : IntKind) (a b : Int) : binO .gtr n l (.int k a) (.int k b) = some (.bool (decide (a > b))) := by simp [binO, intBinD]
theorem qcx (n : Nat) (l : Bool) (k : IntKind) (a b : Int) : binO .geq n l (.int k a) (.int k b) = some (.bool (decide (a ≥ b))) := by simp [binO, intBinD]
theorem qcy (n : Nat) (l : Bool) (k : IntKind) (a b : Int) : binO .eql n l (.int k a) (.int k b) = some (.bool (a == b)) := by simp [binO, intBinD]
theorem qcs (n : Nat) (l : Bool) (k : IntKind) (a b : Int) : binO .neq n l (.int k a) (.int k b) = some (.bool (a != b)) := by simp [binO, intBinD]
theorem binO_or (n : Nat) (l : Bool) (k : IntKind) (a b : Int) : binO .or n l (.int k a) (.int k b) = some (.int k (k.wrap (BitVec.ofInt k.bits a ||| BitVec.ofInt k.bits b).toNat)) := by simp [binO, intBinD]
theorem binO_shr (n : Nat) (l : Bool) (k k' : IntKind) (a b : Int) (h : 0 ≤ b) : binO .shr n l (.int k a) (.int k' b) = some (.int k (a.fdiv (2 ^ (min b.toNat k.bits)))) := by
  have : ¬ b < 0 := by omega
  simp [binO, shiftD, this]
theorem binO_shl (n : Nat) (l : Bool) (k k' : IntKind) (a b : Int) (h : 0 ≤ b) : binO .shl n l (.int k a) (.int k' b) = some (.int k (k.wrap (a * 2 ^ (min b.toNat k.bits)))) := by
  have : ¬ b < 0 := by omega
  simp [binO, shiftD, this]
theorem qbu {n : Int} (h : -9223372036854775808 ≤ n) (h' : n ≤ 9223372036854775807) : IntKind.wrap .i64 n = n := by
  simp [IntKind.wrap, IntKind.bits, IntKind.signed]; omega
theorem qbs {n : Int} (h : 0 ≤ n) (h' : n ≤ 18446744073709551615) : IntKind.wrap .u64 n = n := by
  simp [IntKind.wrap, IntKind.bits, IntKind.signed]; omega
theorem wrap_u8 (n : Int) : IntKind.wrap .u8 n = n % 256 := by simp [IntKind.wrap, IntKind.bits, IntKind.signed]
theorem wrap_u32 (n : Int) : IntKind.wrap .u32 n = n % 4294967296 := by simp [IntKind.wrap, IntKind.bits, IntKind.signed]
theorem conv_int (k k' : IntKind) (n : Int) : convO (.int k) (.int k' n) = some (.int k (k.wrap n)) := rfl
@[simp] theorem qco (s : List UInt8) : convO .str (.str s) = some (.str s) := rfl

/-! bytes -/
theorem bytesD_str (s : List UInt8) : bytesD (strBytes s) = some s := by
  unfold strBytes
  induction s with
  | nil => rfl
  | cons b s ih =>
    simp only [List.map_cons, bytesD, ih, Option.map_some, Option.some.injEq, List.cons.injEq, and_true]
    simp
theorem qbq (o : Own) (s : List UInt8) : convO .bytesStr (.sl o 1 (strBytes s)) = some (.str s) := by simp [convO, convBytesStr, esOk, bytesD_str]
theorem qa6 (es : Nat) : convO .bytesStr (.sl .full es []) = some (.str []) := by simp [convO, convBytesStr, esOk, bytesD, Own.isOwn]
@[simp] theorem qaa (s : List UInt8) : (strBytes s).length = s.length := by simp [strBytes]
theorem strBytes_get (s : List UInt8) (i : Nat) : (strBytes s)[i]? = (s[i]?).map fun b => .int .u8 b.toNat := by simp [strBytes]
theorem strBytes_append (s t : List UInt8) : strBytes (s ++ t) = strBytes s ++ strBytes t := by simp [strBytes]
theorem strBytes_take (s : List UInt8) (n : Nat) : (strBytes s).take n = strBytes (s.take n) := by simp [strBytes, List.map_take]
theorem strBytes_drop (s : List UInt8) (n : Nat) : (strBytes s).drop n = strBytes (s.drop n) := by simp [strBytes, List.map_drop]
@[simp] theorem qbe (n : Nat) (s : List UInt8) : D.shutL n (strBytes s) = strBytes s := by
  rw [shutL_eq]
  unfold strBytes
  rw [List.map_map]
  rfl
@[simp] theorem qbx (n : Nat) (k : IntKind) (x : Int) : (D.int k x).shut n = .int k x := by simp [D.shut]
@[simp] theorem qbd (n : Nat) (b : Bool) : (D.bool b).shut n = .bool b := by simp [D.shut]
@[simp] theorem qca (n : Nat) : (D.any).shut n = .any := by simp [D.shut]
@[simp] theorem qbj (n : Nat) (s : List UInt8) : (D.str s).shut n = .str s := by simp [D.shut]
@[simp] theorem qb8 (n : Nat) (v : Value) : (D.val v).shut n = .val v := by simp [D.shut]
@[simp] theorem qc5 (n : Nat) (o : Own) (es : Nat) (ds : List D) : (D.sl o es ds).shut n = .sl (o.shut n) es (D.shutL n ds) := by simp [D.shut]
@[simp] theorem qcb (n : Nat) (cs : List D) : (D.agg cs).shut n = .agg (D.shutL n cs) := by simp [D.shut]
@[simp] theorem qbw (n : Nat) (cs : List D) : (D.tup cs).shut n = .tup (D.shutL n cs) := by simp [D.shut]
@[simp] theorem qbk (n : Nat) (cs : List D) : (D.peek cs).shut n = .peek (D.shutL n cs) := by simp [D.shut]
@[simp] theorem qa0 (n : Nat) (t : TypeId) (d : D) : (D.iface t d).shut n = .iface t (d.shut n) := by simp [D.shut]
theorem qb9 {n k : Nat} (off : Nat) (h : k < n) : (D.ref k off).shut n = .ref k off := by simp [D.shut, h]
@[simp] theorem qbf (n : Nat) : D.shutL n [] = [] := by simp [D.shutL]
@[simp] theorem qay (n : Nat) (d : D) (ds : List D) : D.shutL n (d :: ds) = d.shut n :: D.shutL n ds := by simp [D.shutL]
@[simp] theorem qdl (n : Nat) : Own.sh.shut n = .sh := rfl
@[simp] theorem qcc (n : Nat) : Own.full.shut n = .full := rfl
theorem qc9 {n c : Nat} (s : Nat) (h : c < n) : (Own.own c s).shut n = .own c s := by simp [Own.shut, h]
theorem qc3 {n c : Nat} (s : Nat) (h : ¬ c < n) : (Own.own c s).shut n = .sh := by simp [Own.shut, h]

/-! the old part of the store -/
@[simp] theorem qbi (A : St) : Kept A A ↔ True := by simp [Kept]
@[simp] theorem qao (A B : St) : Kept A (A ++ B) ↔ True := by
  simp only [Kept, iff_true, List.length_append]
  refine ⟨by omega, fun k hk => .inl ?_⟩
  rw [List.getElem?_append_left hk]
theorem Kept_set {A B : St} (hl : A.length ≤ B.length) (hB : Kept A B) {k : Nat} {s : Slot} (hs : s.shut A.length = s) : Kept A (B.set k s) := by
  refine ⟨by simpa using hl, fun j hj => ?_⟩
  by_cases e : k = j
  · subst e
    rw [List.getElem?_set_self (by omega)]
    exact .inr ⟨s, rfl, hs⟩
  · rw [List.getElem?_set_ne e]
    exact hB.2 j hj
theorem Kept_set_self {A : St} {k : Nat} {s : Slot} (hs : s.shut A.length = s) : Kept A (A.set k s) := Kept_set (Nat.le_refl _) ((qbi A).2 trivial) hs
@[simp] theorem qb5 (n m : Nat) : (Slot.tok m).shut n = .tok m := rfl
@[simp] theorem qa7 (n : Nat) (cs : List D) : (Slot.cells cs).shut n = .cells (D.shutL n cs) := rfl
@[simp] theorem qa5 (A : St) (r : Res) (A' : St) : leaveD .keep A r A' = some (r, A') := rfl
theorem qaq (A : St) (r : Res) (A' : St) : leaveD .trunc A r A' = guardP (Kept A A') (some (r.shut A.length, A'.take A.length)) := rfl
@[simp] theorem qah (n : Nat) (d : D) : (Res.ret d).shut n = .ret (d.shut n) := rfl
@[simp] theorem qan (n : Nat) (d : D) : (Res.pan d).shut n = .pan (d.shut n) := rfl
@[simp] theorem qa4 (dc : D → List D → Option D → St → Option (Option D × St)) (res : St → Option D) (A : St) : leavesD dc res [] none A = (res A).map fun d => (.ret d, A) := rfl
@[simp] theorem qa3 (dc : D → List D → Option D → St → Option (Option D × St)) (res : St → Option D) (p : D) (A : St) : leavesD dc res [] (some p) A = some (.pan p, A) := rfl
theorem qas (dc : D → List D → Option D → St → Option (Option D × St)) (res : St → Option D) (f : D) (args : List D) (r : List (D × List D)) (p : Option D) (A : St) :
    leavesD dc res ((f, args) :: r) p A = (dc f args p A).bind fun x => leavesD dc res r x.1 x.2 := rfl
/-! places -/
@[simp] theorem qai (k o : Nat) : nilCheckD (.ref k o) = some (.ref k o) := rfl
@[simp] theorem qad (cs : List D) : nilCheckD (.peek cs) = some (.peek cs) := rfl
@[simp] theorem qac (off k o : Nat) : fieldAddrO off (.ref k o) = some (.ref k (o + off)) := rfl
@[simp] theorem qab (off : Nat) (cs : List D) : fieldAddrO off (.peek cs) = some (.peek (cs.drop off)) := rfl
@[simp] theorem qb0 (o : Own) (es : Nat) (ds : List D) : lenSlO (.sl o es ds) = some (.int .i64 ds.length) := rfl
@[simp] theorem qa2 (s : List UInt8) : lenStrO (.str s) = some (.int .i64 s.length) := rfl
theorem load_ref {g : Bool} {n k off : Nat} {A : St} {cs : List D} (h : A[k]? = some (.cells cs)) : loadO g n (.ref k off) A = ofCells g cs off n := by simp [loadO, h]
@[simp] theorem qbn (g : Bool) (n : Nat) (cs : List D) (A : St) : loadO g n (.peek cs) A = ofCells g cs 0 n := rfl
theorem qbt (k : IntKind) (n : Int) : (D.int k n).cellsT false = some [.int k n] := rfl
theorem qa8 (o : Own) (s : List UInt8) (i : Int) (k : IntKind) (h : 0 ≤ i) (h' : i.toNat < s.length) : indexAddrO 1 false (.sl o 1 (strBytes s)) (.int k i) = some (.peek [.int .u8 (s[i.toNat].toNat)]) := by
  simp [indexAddrO, D.int?, h, esOk, strBytes_get, List.getElem?_eq_getElem h', qbt]

/-! numbers and their bytes -/
def num (l : List UInt8) : Nat := l.foldl (fun x b => x * 256 + b.toNat) 0
theorem num_append1 (l : List UInt8) (b : UInt8) : num (l ++ [b]) = num l * 256 + b.toNat := by simp [num, List.foldl_append]
theorem num_lt_acc (l : List UInt8) : ∀ a : Nat, l.foldl (fun x b => x * 256 + b.toNat) a < (a + 1) * 256 ^ l.length := by
  induction l with
  | nil => intro a; simp
  | cons b l ih =>
    intro a
    rw [List.foldl_cons, List.length_cons, Nat.pow_succ]
    refine Nat.lt_of_lt_of_le (ih _) ?_
    have := b.toNat_lt
    rw [Nat.mul_comm (256 ^ l.length) 256, ← Nat.mul_assoc]
    exact Nat.mul_le_mul_right _ (by omega)
theorem num_lt (l : List UInt8) : num l < 256 ^ l.length := by simpa [num] using num_lt_acc l 0
def be : Nat → Nat → List UInt8
  | 0, _ => []
  | n + 1, x => (x / 256 ^ n).toUInt8 :: be n x
@[simp] theorem be_length (n x : Nat) : (be n x).length = n := by induction n with
  | zero => rfl
  | succ n ih => simp [be, ih]
theorem or_byte (x : Nat) (c : Nat) (hx : x < 256 ^ 7) (hc : c < 256) :
    (BitVec.ofInt 64 ((x : Int) * 256) ||| BitVec.ofInt 64 (c : Int)).toNat = x * 256 + c := by
  have h1 : ((x : Int) * 256) = ((x * 256 : Nat) : Int) := by simp
  rw [h1, BitVec.ofInt_natCast, BitVec.ofInt_natCast, BitVec.toNat_or, BitVec.toNat_ofNat, BitVec.toNat_ofNat]
  have : (256 : Nat) ^ 7 = 72057594037927936 := by decide
  rw [Nat.mod_eq_of_lt (by omega), Nat.mod_eq_of_lt (by omega)]
  have := Nat.shiftLeft_add_eq_or_of_lt (i := 8) (b := c) (by omega) x
  rw [Nat.shiftLeft_eq] at this
  simpa using this.symm
/-! rows with conditions on numbers -/
theorem qd0 (a : D) (l : List D) (d : D) : List.getD (a :: l) 0 d = a := rfl
theorem qdz (a : D) (l : List D) (n : Nat) (d : D) : List.getD (a :: l) (n + 1) d = List.getD l n d := rfl
theorem qcf {a b : Int} (h : a < b) : decide (a < b) = true := decide_eq_true h
theorem qcg {a b : Int} (h : ¬ a < b) : decide (a < b) = false := decide_eq_false h
theorem qch {a b : Int} (h : a ≤ b) : decide (a ≤ b) = true := decide_eq_true h
theorem qci {a b : Int} (h : ¬ a ≤ b) : decide (a ≤ b) = false := decide_eq_false h
theorem qcj {a b : Int} (h : a > b) : decide (a > b) = true := decide_eq_true h
theorem qck {a b : Int} (h : ¬ a > b) : decide (a > b) = false := decide_eq_false h
theorem qcl {a b : Int} (h : a ≥ b) : decide (a ≥ b) = true := decide_eq_true h
theorem qcm {a b : Int} (h : ¬ a ≥ b) : decide (a ≥ b) = false := decide_eq_false h
theorem qd3 {a b : Int} (h : a = b) : (a == b) = true := by simp [h]
theorem qd4 {a b : Int} (h : ¬ a = b) : (a == b) = false := by simp [h]
theorem qd1 {a b : Int} (h : ¬ a = b) : (a != b) = true := by simp [bne, h]
theorem qd2 {a b : Int} (h : a = b) : (a != b) = false := by simp [h]
theorem qbz (d : D) (cs : List D) : ofCells false (d :: cs) 0 1 = some d := rfl
theorem qby (d : D) (cs : List D) (k : Nat) : ofCells false (d :: cs) (k + 1) 1 = ofCells false cs k 1 := rfl
theorem qbp (b : UInt8) : convO (.int .u64) (.int .u8 (b.toNat : Int)) = some (.int .u64 (b.toNat : Int)) := by
  have := b.toNat_lt
  rw [conv_int, qbs (by omega) (by omega)]
theorem conv_u8 (k : IntKind) (n : Int) : convO (.int .u8) (.int k n) = some (.int .u8 (n % 256)) := by rw [conv_int, wrap_u8]
theorem conv_u32 (k : IntKind) (n : Int) : convO (.int .u32) (.int k n) = some (.int .u32 (n % 4294967296)) := by rw [conv_int, wrap_u32]
theorem qb3 (k : IntKind) (n : Int) (h : 0 ≤ n) (h' : n ≤ 18446744073709551615) : convO (.int .u64) (.int k n) = some (.int .u64 n) := by rw [conv_int, qbs h h']
theorem qcp (k : IntKind) (n : Int) (h : -9223372036854775808 ≤ n) (h' : n ≤ 9223372036854775807) : convO (.int .i64) (.int k n) = some (.int .i64 n) := by rw [conv_int, qbu h h']
theorem shl8 (n : Nat) (l : Bool) (k : IntKind) (x : Nat) (h : x < 256 ^ 7) : binO .shl n l (.int .u64 (x : Int)) (.int k 8) = some (.int .u64 ((x * 256 : Nat) : Int)) := by
  have e : (256 : Nat) ^ 7 = 72057594037927936 := by decide
  rw [binO_shl _ _ _ _ _ _ (by omega)]
  have : (2 : Int) ^ (min (8 : Int).toNat (IntKind.bits .u64)) = 256 := by decide
  rw [this, qbs (by omega) (by omega)]
  simp
theorem or8 (n : Nat) (l : Bool) (x c : Nat) (hx : x < 256 ^ 7) (hc : c < 256) : binO .or n l (.int .u64 ((x * 256 : Nat) : Int)) (.int .u64 (c : Int)) = some (.int .u64 ((x * 256 + c : Nat) : Int)) := by
  have e : (256 : Nat) ^ 7 = 72057594037927936 := by decide
  rw [binO_or]
  have := or_byte x c hx hc
  have h64 : IntKind.bits .u64 = 64 := rfl
  rw [h64]
  have e2 : ((x * 256 : Nat) : Int) = (x : Int) * 256 := by simp
  rw [e2, this, qbs (by omega) (by omega)]
/-! appending -/
theorem strBytes_snoc (l : List UInt8) (b : UInt8) : strBytes l ++ [.int .u8 (b.toNat : Int)] = strBytes (l ++ [b]) := by simp [strBytes]
theorem qbg (n : Nat) (g : Bool) (i : Nat) : sliceParts n g i [] = some [] := rfl
theorem qbh (i j : Nat) (k : IntKind) (x : Int) (r : List (Nat × D)) (h : i = j) : sliceParts 1 false i ((j, .int k x) :: r) = (sliceParts 1 false (i + 1) r).map (.int k x :: ·) := by
  subst h; simp [sliceParts, qbt]
theorem new_full (n : Nat) (ds : List D) : appendNew n (.sl .full n ds) = some ds := by simp [appendNew, esOk]
theorem append_own {n b c s0 : Nat} {ds new : List D} {y : D} {A : St} (hy : appendNew n y = some new) (hA : A[c]? = some (.tok (s0 + ds.length))) (hr : roomOk (ds.length + new.length) b = true)
    (hl : ds.length + new.length ≤ 9223372036854775807) :
    appendO n b (.sl (.own c s0) n ds) y A = some (.sl (.own c s0) n (ds ++ new), A.set c (.tok (s0 + ds.length + new.length))) := by
  simp [appendO, hy, hA, hr, hl, esOk]
theorem append_full {n b : Nat} {ds new : List D} {y : D} {A : St} (hy : appendNew n y = some new) (hn : new.isEmpty = false) (hr : roomOk (ds.length + new.length) b = true)
    (hl : ds.length + new.length ≤ 9223372036854775807) :
    appendO n b (.sl .full n ds) y A = some (.sl (.own A.length 0) n (ds ++ new), A ++ [.tok (ds.length + new.length)]) := by
  have hn' : new ≠ [] := by rintro rfl; simp at hn
  simp [appendO, hy, hn', hr, hl, esOk]
theorem qau {c : Nat} {l : List UInt8} {b : UInt8} {A : St} (hA : A[c]? = some (.tok l.length)) (hl : l.length + 1 ≤ 140737488355328) :
    appendO 1 1 (.sl (.own c 0) 1 (strBytes l)) (.sl .full 1 [.int .u8 (b.toNat : Int)]) A = some (.sl (.own c 0) 1 (strBytes (l ++ [b])), A.set c (.tok (l.length + 1))) := by
  rw [append_own (new_full _ _) (by simpa using hA) (by simp [roomOk]; omega) (by simp; omega), strBytes_snoc]
  simp
theorem qak {l : List UInt8} {b : UInt8} {A : St} (hl : l.length + 1 ≤ 140737488355328) :
    appendO 1 1 (.sl .full 1 (strBytes l)) (.sl .full 1 [.int .u8 (b.toNat : Int)]) A = some (.sl (.own A.length 0) 1 (strBytes (l ++ [b])), A ++ [.tok (l.length + 1)]) := by
  rw [append_full (new_full _ _) rfl (by simp [roomOk]; omega) (by simp; omega), strBytes_snoc]
  simp
theorem qae {A : St} {c s es : Nat} {ds : List D} {A' : St} (h : c < A.length) :
    leaveD .own A (.ret (.sl (.own c s) es ds)) A' = guardP (Kept A A') (some (.ret (.sl (.own c s) es (D.shutL A.length ds)), A'.take A.length)) := by
  simp [leaveD, h, Own.shut]
theorem qaf {A : St} {c s es m : Nat} {ds : List D} {A' : St} (h : ¬ c < A.length) (hA : A'[c]? = some (.tok m)) :
    leaveD .own A (.ret (.sl (.own c s) es ds)) A' = guardP (Kept A A') (some (.ret (.sl (.own A.length s) es (D.shutL A.length ds)), A'.take A.length ++ [.tok m])) := by
  simp [leaveD, h, hA]
theorem qaw {A : St} {k m : Nat} : Kept A (A.set k (.tok m)) ↔ True := iff_true_intro (Kept_set_self rfl)
theorem qb6 (A : St) (k : Nat) (s : Slot) : (A.set k s).take A.length = A.set k s := List.take_of_length_le (by simp)
theorem qbv (A B : St) : (A ++ B).take A.length = A := List.take_left
theorem shr8 (n : Nat) (l : Bool) (k : IntKind) (x i : Nat) (h : i ≤ 7) : binO .shr n l (.int .u64 (x : Int)) (.int k (8 * (i : Int))) = some (.int .u64 ((x / 256 ^ i : Nat) : Int)) := by
  rw [binO_shr _ _ _ _ _ _ (by omega)]
  have e : min (8 * (i : Int)).toNat (IntKind.bits .u64) = 8 * i := by
    have : IntKind.bits .u64 = 64 := rfl
    rw [this]; omega
  rw [e]
  have : (2 : Int) ^ (8 * i) = ((256 ^ i : Nat) : Int) := by rw [Int.pow_mul]; simp
  rw [this, Int.fdiv_eq_ediv_of_nonneg _ (Int.natCast_nonneg _)]
  rfl
theorem qcn (k : IntKind) (m : Nat) : convO (.int .u8) (.int k (m : Int)) = some (.int .u8 (m.toUInt8.toNat : Int)) := by
  rw [conv_u8]
  simp
/-! a writer: a variable of one slice, and its room -/
def wr (A : St) (k c : Nat) (bs : List UInt8) : St := (A.set c (.tok bs.length)).set k (.cells [.sl (.own c 0) 1 (strBytes bs)])
theorem qba (A : St) (k c : Nat) (bs : List UInt8) : (wr A k c bs).length = A.length := by simp [wr]
theorem wr_k {A : St} {k c : Nat} {bs : List UInt8} (hk : k < A.length) : (wr A k c bs)[k]? = some (.cells [.sl (.own c 0) 1 (strBytes bs)]) := by
  unfold wr; rw [List.getElem?_set_self (by simpa using hk)]
theorem wr_c {A : St} {k c : Nat} {bs : List UInt8} (hc : c < A.length) (h : k ≠ c) : (wr A k c bs)[c]? = some (.tok bs.length) := by
  unfold wr; rw [List.getElem?_set_ne h, List.getElem?_set_self hc]
theorem wr_set (A : St) (k c : Nat) (bs bs' : List UInt8) (h : k ≠ c) (m : Nat) (hm : m = bs'.length) : ((wr A k c bs).set c (.tok m)).set k (.cells [.sl (.own c 0) 1 (strBytes bs')]) = wr A k c bs' := by
  subst hm
  unfold wr
  rw [List.set_comm _ _ h, List.set_set, List.set_set]
theorem wr_take (A : St) (k c : Nat) (bs : List UInt8) : (wr A k c bs).take A.length = wr A k c bs := List.take_of_length_le (by simp [wr])
theorem wr_take' (A B : St) (k c : Nat) (bs : List UInt8) (h : B.length = A.length) : (wr A k c bs).take B.length = wr A k c bs := List.take_of_length_le (by simp [wr, h])
theorem Kept_cells {A B : St} (hl : A.length ≤ B.length) (hB : Kept A B) {k : Nat} {cs : List D} (hs : D.shutL A.length cs = cs) : Kept A (B.set k (.cells cs)) := Kept_set hl hB (by simp [hs])
theorem Kept_wr {A : St} {k c : Nat} (hc : c < A.length) (bs : List UInt8) : Kept A (wr A k c bs) := by
  unfold wr
  exact Kept_cells (by simp) (Kept_set_self rfl) (by simp [qc9 _ hc])
theorem Kept_wr2 {A : St} {k c : Nat} (hk : k < A.length) (hc : c < A.length) (h : k ≠ c) (bs bs' : List UInt8) : Kept (wr A k c bs) (wr A k c bs') := by
  have := Kept_wr (A := wr A k c bs) (k := k) (c := c) (by simpa [wr] using hc) bs'
  have e : wr (wr A k c bs) k c bs' = wr A k c bs' := by
    have := wr_set A k c bs bs' h _ rfl
    simpa [wr] using this
  rwa [e] at this
def nums (l : List Nat) : List D := l.map fun n : Nat => .int .u64 (n : Int)
@[simp] theorem qar (l : List Nat) : (nums l).length = l.length := by simp [nums]
@[simp] theorem qa1 (n : Nat) (l : List Nat) : D.shutL n (nums l) = nums l := by
  rw [shutL_eq]; unfold nums; rw [List.map_map]; rfl
theorem index_nums (o : Own) (l : List Nat) (i : Nat) (k : IntKind) (h : i < l.length) : indexAddrO 1 false (.sl o 1 (nums l)) (.int k (i : Int)) = some (.peek [.int .u64 (l[i] : Int)]) := by
  simp [indexAddrO, D.int?, esOk, nums, List.getElem?_eq_getElem h, qbt]
def beL (n : Nat) (l : List Nat) : List UInt8 := l.flatMap (be n)
theorem storeO1 {k off : Nat} {A : St} {cs : List D} {d : D} (h : A[k]? = some (.cells cs)) (hd : d.cellsT false = some [d]) (ho : off < cs.length) : storeO false 1 (.ref k off) d A = some (A.set k (.cells (splice cs off [d]))) := by
  simp [storeO, hd, h]; omega
theorem qda (o : Own) (es : Nat) (ds : List D) : (D.sl o es ds).cellsT false = some [.sl o es ds] := rfl
theorem qdd (d x : D) : splice [x] 0 [d] = [d] := rfl
theorem wr_self {B : St} {k c : Nat} {bs : List UInt8} (hk : B[k]? = some (.cells [.sl (.own c 0) 1 (strBytes bs)])) (hc : B[c]? = some (.tok bs.length)) : wr B k c bs = B := by
  have set_same : ∀ {A : St} {i : Nat} {s : Slot}, A[i]? = some s → A.set i s = A := by
    intro A i s h
    apply List.ext_getElem?
    intro j
    rw [List.getElem?_set]
    split
    · rename_i e; subst e
      split
      · exact h.symm
      · rename_i e; rw [List.getElem?_eq_none (by omega)]
    · rfl
  unfold wr
  rw [set_same hc, set_same hk]
theorem wr_other {B : St} {k c j : Nat} {bs : List UInt8} (hk : j ≠ k) (hc : j ≠ c) : (wr B k c bs)[j]? = B[j]? := by
  unfold wr; rw [List.getElem?_set_ne (Ne.symm hk), List.getElem?_set_ne (Ne.symm hc)]
/-- a writer above the old part -/
theorem Kept_wr_new {A B : St} {k c : Nat} (hK : Kept A B) (hk : A.length ≤ k) (hc : A.length ≤ c) (bs : List UInt8) : Kept A (wr B k c bs) := by
  refine ⟨by rw [qba]; exact hK.1, fun j hj => ?_⟩
  rw [wr_other (by omega) (by omega)]
  exact hK.2 j hj
theorem take_wr_new {A B : St} {k c : Nat} (hB : B.take A.length = A) (hk : A.length ≤ k) (hc : A.length ≤ c) (bs : List UInt8) : (wr B k c bs).take A.length = A := by
  unfold wr
  rw [List.take_set_of_le hk, List.take_set_of_le hc, hB]
theorem box_agg {cs : List D} (A : St) (h : allCells cs = true) : boxO true (.agg cs) A = some (.ref A.length 0, A ++ [.cells cs]) := by simp [boxO, D.cellsT, D.agg?, h, allocD]
theorem qc0 (cs : List D) (A : St) : allocO cs A = some (.ref A.length 0, A ++ [.cells cs]) := rfl
theorem qdb (off es : Nat) (d : D) (ds : List D) (A : St) : tokO [(off, es)] (.sl .full es (d :: ds)) A = some (.sl (.own A.length 0) es (d :: ds), A ++ [.tok (d :: ds).length]) := rfl
theorem qc4 (off es es' : Nat) (A : St) : tokO [(off, es)] (.sl .full es' []) A = some (.sl (.own A.length 0) es [], A ++ [.tok 0]) := rfl
theorem qde (a d : D) (cs : List D) : splice (a :: cs) 0 [d] = d :: cs := rfl
theorem qdc (a d : D) (cs : List D) (n : Nat) : splice (a :: cs) (n + 1) [d] = a :: splice cs n [d] := by
  simp [splice]
theorem storeA {n k : Nat} {A : St} {cs vs : List D} (h : A[k]? = some (.cells cs)) (hv : allCells vs = true) (hn : Nat.beq vs.length n = true) (hc : Nat.beq cs.length n = true) : storeO true n (.ref k 0) (.agg vs) A = some (A.set k (.cells vs)) := by
  have h1 := Nat.eq_of_beq_eq_true hn
  have h2 := Nat.eq_of_beq_eq_true hc
  simp [storeO, D.cellsT, D.agg?, hv, h, h1, h2, splice, List.drop_of_length_le (Nat.le_of_eq h2)]
@[simp] theorem qal : allCells [] = true := rfl
theorem qam (k : IntKind) (n : Int) (cs : List D) : allCells (.int k n :: cs) = allCells cs := rfl
theorem qag (b : Bool) (cs : List D) : allCells (.bool b :: cs) = allCells cs := rfl
theorem qav (o : Own) (es : Nat) (ds : List D) (cs : List D) : allCells (.sl o es ds :: cs) = allCells cs := rfl
theorem qcq (cs : List D) (A : St) : boxO true (.agg cs) A = cond (allCells cs) (some (.ref A.length 0, A ++ [.cells cs])) none := by cases h : allCells cs <;> simp [boxO, D.cellsT, D.agg?, h, allocD]
theorem qdf (a : D) (cs : List D) (k : IntKind) (x : Int) : layCells false 1 0 (a :: cs) (.int k x) = some (.int k x :: cs) := by simp [layCells, qbt, splice]
theorem qdm (a : D) (cs : List D) (o : Own) (es : Nat) (ds : List D) : layCells false 1 0 (a :: cs) (.sl o es ds) = some (.sl o es ds :: cs) := by simp [layCells, qda, splice]
theorem qcd (a : D) (cs : List D) (b : Bool) : layCells false 1 0 (a :: cs) (.bool b) = some (.bool b :: cs) := by
  have : (D.bool b).cellsT false = some [.bool b] := rfl
  simp [layCells, this, splice]
theorem qdy (n : Nat) (a : D) (cs : List D) (d : D) : layCells false 1 (n + 1) (a :: cs) d = (layCells false 1 n cs d).map (a :: ·) := by
  unfold layCells
  cases h : d.cellsT false with
  | none => rfl
  | some vs =>
    simp only [Option.bind_some, List.length_cons]
    by_cases h1 : vs.length = 1 ∧ n + 1 ≤ cs.length
    · rw [if_pos h1, if_pos ⟨h1.1, by omega⟩]
      simp [splice, Nat.add_right_comm]
    · rw [if_neg h1, if_neg (fun h2 => h1 ⟨h2.1, by omega⟩)]
      rfl
theorem ofA2 (a b : D) : ofCells true [a, b] 0 2 = some (.agg [a, b]) := rfl
theorem ofA3 (a b c : D) : ofCells true [a, b, c] 0 3 = some (.agg [a, b, c]) := rfl
theorem ofA4 (a b c d : D) : ofCells true [a, b, c, d] 0 4 = some (.agg [a, b, c, d]) := rfl
theorem ofA6 (a b c d e f : D) : ofCells true [a, b, c, d, e, f] 0 6 = some (.agg [a, b, c, d, e, f]) := rfl
theorem Kept_new {A B : St} (hK : Kept A B) {j : Nat} (s : Slot) (h : A.length ≤ j) : Kept A (B.set j s) := by
  refine ⟨by simpa using hK.1, fun i hi => ?_⟩
  rw [List.getElem?_set_ne (by omega)]
  exact hK.2 i hi
theorem take_new {A B : St} (hB : B.take A.length = A) {j : Nat} (s : Slot) (h : A.length ≤ j) : (B.set j s).take A.length = A := by
  rw [List.take_set_of_le h, hB]
theorem append_bytes {c : Nat} {l m : List UInt8} {o : Own} {es : Nat} (hes : esOk o es 1 (strBytes m) = true) {A : St} (hA : A[c]? = some (.tok l.length)) (hl : l.length + m.length ≤ 140737488355328) :
    appendO 1 1 (.sl (.own c 0) 1 (strBytes l)) (.sl o es (strBytes m)) A = some (.sl (.own c 0) 1 (strBytes (l ++ m)), A.set c (.tok (l.length + m.length))) := by
  rw [append_own (new := strBytes m) (by simp [appendNew, hes]) (by simpa using hA) (by simp [roomOk]; omega) (by simp; omega), strBytes_append]
  simp
theorem get_app {α : Type} (A L : List α) (j i : Nat) (h : j = A.length + i) : (A ++ L)[j]? = L[i]? := by
  subst h
  rw [List.getElem?_append_right (by omega)]
  congr 1; omega
/-! a reader: a variable of the bytes that are left and the place -/
def Own.adv (o : Own) (n : Nat) : Own := match o with | .own c s => .own c (s + n) | o => o
theorem adv_shut {o : Own} {m : Nat} (h : o.shut m = o) (n : Nat) : (o.adv n).shut m = o.adv n := by
  cases o with
  | sh => rfl
  | full => rfl
  | own c s =>
    simp only [Own.shut] at h
    split at h
    · rename_i hc; simp [Own.adv, Own.shut, hc]
    · cases h
def rd (A : St) (k : Nat) (o : Own) (l : List UInt8) (p : Int) : St := A.set k (.cells [.sl o 1 (strBytes l), .int .i64 p])
theorem qbb (A : St) (k : Nat) (o : Own) (l : List UInt8) (p : Int) : (rd A k o l p).length = A.length := by simp [rd]
theorem rd_k {A : St} {k : Nat} {o : Own} {l : List UInt8} {p : Int} (hk : k < A.length) : (rd A k o l p)[k]? = some (.cells [.sl o 1 (strBytes l), .int .i64 p]) := by
  unfold rd; rw [List.getElem?_set_self hk]
theorem qc6 {A : St} {k : Nat} {o : Own} {l : List UInt8} {p : Int} {g : Bool} {n off : Nat} (hk : k < A.length) : loadO g n (.ref k off) (rd A k o l p) = ofCells g [.sl o 1 (strBytes l), .int .i64 p] off n := load_ref (rd_k hk)
theorem rd_rd (A : St) (k : Nat) (o o' : Own) (l l' : List UInt8) (p p' : Int) : rd (rd A k o l p) k o' l' p' = rd A k o' l' p' := by unfold rd; rw [List.set_set]
theorem qbm {A : St} {k : Nat} {o o' : Own} {l l' : List UInt8} {p : Int} (hk : k < A.length) : storeO false 1 (.ref k 0) (.sl o' 1 (strBytes l')) (rd A k o l p) = some (rd A k o' l' p) := by
  rw [storeO1 (rd_k hk) rfl (by simp)]; unfold rd; rw [List.set_set]; rfl
theorem qbl {A : St} {k : Nat} {o : Own} {l : List UInt8} {p p' : Int} (hk : k < A.length) : storeO false 1 (.ref k 1) (.int .i64 p') (rd A k o l p) = some (rd A k o l p') := by
  rw [storeO1 (rd_k hk) rfl (by simp)]; unfold rd; rw [List.set_set]; rfl
theorem qc8 (A : St) (k : Nat) (o : Own) (l : List UInt8) (p : Int) : (rd A k o l p).take A.length = rd A k o l p := List.take_of_length_le (by simp [rd])
theorem Kept_rd {A : St} {k : Nat} {o : Own} (ho : o.shut A.length = o) (l : List UInt8) (p : Int) : Kept A (rd A k o l p) := Kept_set_self (by simp [ho])
theorem qb4 {A : St} {k : Nat} {o o' : Own} {l l' : List UInt8} {p p' : Int} (ho : o'.shut A.length = o') : Kept (rd A k o l p) (rd A k o' l' p') ↔ True := by
  refine iff_true_intro ?_
  have := Kept_rd (A := rd A k o l p) (k := k) (o := o') (by rw [qbb]; exact ho) l' p'
  rwa [rd_rd] at this
theorem qb7 {o : Own} {l : List UInt8} {n : Nat} (h : n ≤ l.length) :
    sliceSlO 1 (.sl o 1 (strBytes l)) none (some (.int .i64 (n : Int))) (some (.int .i64 (n : Int))) = some (.sl .full 1 (strBytes (l.take n))) := by
  simp [sliceSlO, optInt, D.int?, esOk, sliceSl, h, sliceOwn, strBytes_take]
theorem qax {o : Own} {l : List UInt8} {n : Nat} (h : n ≤ l.length) :
    sliceSlO 1 (.sl o 1 (strBytes l)) (some (.int .i64 (n : Int))) none none = some (.sl (o.adv n) 1 (strBytes (l.drop n))) := by
  have e : List.take l.length (strBytes l) = strBytes l := by rw [← qaa l]; exact List.take_length
  simp [sliceSlO, optInt, D.int?, esOk, sliceSl, h, sliceOwn, e, strBytes_drop]
  cases o <;> rfl
theorem qdq : (false == false) = true := rfl
theorem qdo : (true == false) = false := rfl
theorem qdn : (true == true) = true := rfl
theorem qdp : (false == true) = false := rfl
/-! one step at a time -/
section
variable {α β γ : Type} {r : Option β}
theorem qdh {a : α} {f : α → Option β} (h : f a = r) : bn (some a) f = r := h
theorem qdj {x : Option γ} {g : γ → Option α} {f : α → Option β} (h : bn x (fun a => bn (g a) f) = r) : bn (bn x g) f = r := by cases x <;> exact h
theorem qdk {x : Option γ} {g : γ → Option α} {f : α → Option β} (h : bn x (fun a => bn (g a) f) = r) : bn (x.bind g) f = r := by cases x <;> exact h
theorem qdt {x : Option γ} {g : γ → α} {f : α → Option β} (h : bn x (fun a => f (g a)) = r) : bn (x.map g) f = r := by cases x <;> exact h
theorem qdi {c : Bool} {x y : Option α} {f : α → Option β} (h : ifb c (bn x f) (bn y f) = r) : bn (ifb c x y) f = r := by cases c <;> exact h
theorem qbr {x : Res} {g k : D → Option α} {f : α → Option β} (h : x.elim (fun d => bn (g d) f) (fun d => bn (k d) f) = r) : bn (x.elim g k) f = r := by cases x <;> exact h
theorem qc2 {δ : Type} {x : γ ⊕ δ} {g : γ → Option α} {k : δ → Option α} {f : α → Option β} (h : Sum.elim (fun d => bn (g d) f) (fun d => bn (k d) f) x = r) : bn (Sum.elim g k x) f = r := by cases x <;> exact h
theorem qa9 {p : Prop} {x : Option α} {f : α → Option β} (h : guardP p (bn x f) = r) : bn (guardP p x) f = r := by
  unfold guardP at h ⊢
  split <;> simp_all
theorem qdw {x y : Option β} (h : x = r) : ifb true x y = r := h
theorem qdx {x y : Option β} (h : y = r) : ifb false x y = r := h
theorem qdr {d : D} {g k : D → Option β} (h : g d = r) : (Res.ret d).elim g k = r := h
theorem qds {d : D} {g k : D → Option β} (h : k d = r) : (Res.pan d).elim g k = r := h
theorem qdv {δ : Type} {a : γ} {g : γ → Option β} {k : δ → Option β} (h : g a = r) : Sum.elim g k (.inl a) = r := h
theorem qdu {δ : Type} {a : δ} {g : γ → Option β} {k : δ → Option β} (h : k a = r) : Sum.elim g k (.inr a) = r := h
theorem qc1 {x : Option β} (h : x = r) : guardP True x = r := by rw [qap]; exact h
end
theorem qbo (k : IntKind) (n : Nat) (h : n ≤ 4294967295) : convO (.int .u32) (.int k (n : Int)) = some (.int .u32 (n : Int)) := by
  rw [conv_u32, Int.emod_eq_of_lt (by omega) (by omega)]
end Go.Vm
