/- How the operations on data come out: rows for simp. -/
import Derived.Test.YtikjlgcbcljehaaGreatDoorVmK
set_option linter.all false
namespace Go.Vm
open Go.RowKit
set_option linter.unusedVariables false

@[simp] theorem bool?_bool (b : Bool) : (D.bool b).bool? = some b := rfl
@[simp] theorem guardB_bool (w b : Bool) : guardB w (.bool b) = some (b == w) := rfl
@[simp] theorem guardB_undef (w : Bool) : guardB w (.tup []) = some false := rfl
theorem qap (n : Nat) (l : Bool) (k : IntKind) (a b : Int) : binO .add n l (.int k a) (.int k b) = some (.int k (k.wrap (a + b))) := by simp [binO, intBinD]
theorem binO_sub (n : Nat) (l : Bool) (k : IntKind) (a b : Int) : binO .sub n l (.int k a) (.int k b) = some (.int k (k.wrap (a - b))) := by simp [binO, intBinD]
theorem binO_lss (n : Nat) (l : Bool) (k : IntKind) (a b : Int) : binO .lss n l (.int k a) (.int k b) = some (.bool (decide (a < b))) := by simp [binO, intBinD]
theorem binO_leq (n : Nat) (l : Bool) (k : IntKind) (a b : Int) : binO .leq n l (.int k a) (.int k b) = some (.bool (decide (a ≤ b))) := by simp [binO, intBinD]
theorem binO_gtr (n : Nat) (l : Bool) (k : IntKind) (a b : Int) : binO .gtr n l (.int k a) (.int k b) = some (.bool (decide (a > b))) := by simp [binO, intBinD]
theorem binO_geq (n : Nat) (l : Bool) (k : IntKind) (a b : Int) : binO .geq n l (.int k a) (.int k b) = some (.bool (decide (a ≥ b))) := by simp [binO, intBinD]
theorem binO_eql (n : Nat) (l : Bool) (k : IntKind) (a b : Int) : binO .eql n l (.int k a) (.int k b) = some (.bool (a == b)) := by simp [binO, intBinD]
theorem binO_neq (n : Nat) (l : Bool) (k : IntKind) (a b : Int) : binO .neq n l (.int k a) (.int k b) = some (.bool (a != b)) := by simp [binO, intBinD]
theorem binO_or (n : Nat) (l : Bool) (k : IntKind) (a b : Int) : binO .or n l (.int k a) (.int k b) = some (.int k (k.wrap (BitVec.ofInt k.bits a ||| BitVec.ofInt k.bits b).toNat)) := by simp [binO, intBinD]
theorem qan {n : Int} (h : -9223372036854775808 ≤ n) (h' : n ≤ 9223372036854775807) : IntKind.wrap .i64 n = n := by
  simp [IntKind.wrap, IntKind.bits, IntKind.signed]; omega
@[simp] theorem conv_str (s : List UInt8) : convO .str (.str s) = some (.str s) := rfl

/-! bytes -/
@[simp] theorem strBytes_length (s : List UInt8) : (strBytes s).length = s.length := by simp [strBytes]
theorem strBytes_append (s t : List UInt8) : strBytes (s ++ t) = strBytes s ++ strBytes t := by simp [strBytes]
@[simp] theorem shutL_str (n : Nat) (s : List UInt8) : D.shutL n (strBytes s) = strBytes s := by
  rw [shutL_eq]
  unfold strBytes
  rw [List.map_map]
  rfl
@[simp] theorem qa1 (n : Nat) (k : IntKind) (x : Int) : (D.int k x).shut n = .int k x := by simp [D.shut]
@[simp] theorem qav (n : Nat) (b : Bool) : (D.bool b).shut n = .bool b := by simp [D.shut]
@[simp] theorem shut_any (n : Nat) : (D.any).shut n = .any := by simp [D.shut]
@[simp] theorem shut_strD (n : Nat) (s : List UInt8) : (D.str s).shut n = .str s := by simp [D.shut]
@[simp] theorem shut_val (n : Nat) (v : Value) : (D.val v).shut n = .val v := by simp [D.shut]
@[simp] theorem shut_sl (n : Nat) (o : Own) (es : Nat) (ds : List D) : (D.sl o es ds).shut n = .sl (o.shut n) es (D.shutL n ds) := by simp [D.shut]
@[simp] theorem shut_agg (n : Nat) (cs : List D) : (D.agg cs).shut n = .agg (D.shutL n cs) := by simp [D.shut]
@[simp] theorem shut_tup (n : Nat) (cs : List D) : (D.tup cs).shut n = .tup (D.shutL n cs) := by simp [D.shut]
@[simp] theorem shut_peek (n : Nat) (cs : List D) : (D.peek cs).shut n = .peek (D.shutL n cs) := by simp [D.shut]
@[simp] theorem shut_iface (n : Nat) (t : TypeId) (d : D) : (D.iface t d).shut n = .iface t (d.shut n) := by simp [D.shut]
theorem shut_ref {n k : Nat} (off : Nat) (h : k < n) : (D.ref k off).shut n = .ref k off := by simp [D.shut, h]
@[simp] theorem shutL_nil (n : Nat) : D.shutL n [] = [] := by simp [D.shutL]
@[simp] theorem shutL_cons (n : Nat) (d : D) (ds : List D) : D.shutL n (d :: ds) = d.shut n :: D.shutL n ds := by simp [D.shutL]
@[simp] theorem own_sh (n : Nat) : Own.sh.shut n = .sh := rfl
@[simp] theorem own_full (n : Nat) : Own.full.shut n = .full := rfl
/-! the old part of the store -/
@[simp] theorem Kept_refl (A : St) : Kept A A ↔ True := by simp [Kept]
@[simp] theorem qar (A B : St) : Kept A (A ++ B) ↔ True := by
  simp only [Kept, iff_true, List.length_append]
  refine ⟨by omega, fun k hk => .inl ?_⟩
  rw [List.getElem?_append_left hk]
@[simp] theorem tok_shut (n m : Nat) : (Slot.tok m).shut n = .tok m := rfl
@[simp] theorem cells_shut (n : Nat) (cs : List D) : (Slot.cells cs).shut n = .cells (D.shutL n cs) := rfl
@[simp] theorem leave_keep (A : St) (r : Res) (A' : St) : leaveD .keep A r A' = some (r, A') := rfl
@[simp] theorem qad (n : Nat) (d : D) : (Res.ret d).shut n = .ret (d.shut n) := rfl
@[simp] theorem Res_shut_pan (n : Nat) (d : D) : (Res.pan d).shut n = .pan (d.shut n) := rfl
@[simp] theorem qaq (dc : D → List D → Option D → St → Option (Option D × St)) (res : St → Option D) (A : St) : leavesD dc res [] none A = (res A).map fun d => (.ret d, A) := rfl
@[simp] theorem leaves_pan (dc : D → List D → Option D → St → Option (Option D × St)) (res : St → Option D) (p : D) (A : St) : leavesD dc res [] (some p) A = some (.pan p, A) := rfl
@[simp] theorem dfb_shut (n : Nat) : Slot.dfb.shut n = .dfb := rfl
@[simp] theorem loop_shut (n : Nat) (f : FuncId) (t : List D) (rf : Code) (st : RSt) : (Slot.loop f t rf st).shut n = .loop f (D.shutL n t) rf st := rfl
@[simp] theorem dead_shut (n : Nat) : Slot.dead.shut n = .dead := rfl
/-! places -/
@[simp] theorem nilCheck_ref (k o : Nat) : nilCheckD (.ref k o) = some (.ref k o) := rfl
@[simp] theorem nilCheck_peek (cs : List D) : nilCheckD (.peek cs) = some (.peek cs) := rfl
@[simp] theorem qae (off k o : Nat) : fieldAddrO off (.ref k o) = some (.ref k (o + off)) := rfl
@[simp] theorem fieldAddr_peek (off : Nat) (cs : List D) : fieldAddrO off (.peek cs) = some (.peek (cs.drop off)) := rfl
@[simp] theorem lenSl_sl (o : Own) (es : Nat) (ds : List D) : lenSlO (.sl o es ds) = some (.int .i64 ds.length) := rfl
@[simp] theorem lenStr_str (s : List UInt8) : lenStrO (.str s) = some (.int .i64 s.length) := rfl
theorem load_ref {g : Bool} {n k off : Nat} {A : St} {cs : List D} (h : A[k]? = some (.cells cs)) : loadO g n (.ref k off) A = ofCells g cs off n := by simp [loadO, h]
@[simp] theorem qau (g : Bool) (n : Nat) (cs : List D) (A : St) : loadO g n (.peek cs) A = ofCells g cs 0 n := rfl
/-! numbers and their bytes -/
def be : Nat → Nat → List UInt8
  | 0, _ => []
  | n + 1, x => (x / 256 ^ n).toUInt8 :: be n x
@[simp] theorem be_length (n x : Nat) : (be n x).length = n := by induction n with
  | zero => rfl
  | succ n ih => simp [be, ih]
/-! rows with conditions on numbers -/
theorem beq_t {a b : Int} (h : a = b) : (a == b) = true := by simp [h]
theorem beq_f {a b : Int} (h : ¬ a = b) : (a == b) = false := by simp [h]
theorem bne_t {a b : Int} (h : ¬ a = b) : (a != b) = true := by simp [bne, h]
theorem bne_f {a b : Int} (h : a = b) : (a != b) = false := by simp [h]
theorem qao (d : D) (cs : List D) : ofCells false (d :: cs) 0 1 = some d := rfl
theorem ofCellsS (d : D) (cs : List D) (k : Nat) : ofCells false (d :: cs) (k + 1) 1 = ofCells false cs k 1 := rfl
/-! appending -/
theorem append_own {n b c s0 : Nat} {ds new : List D} {y : D} {A : St} (hy : appendNew n y = some new) (hA : A[c]? = some (.tok (s0 + ds.length))) (hr : roomOk (ds.length + new.length) b = true)
    (hl : ds.length + new.length ≤ 9223372036854775807) :
    appendO n b (.sl (.own c s0) n ds) y A = some (.sl (.own c s0) n (ds ++ new), A.set c (.tok (s0 + ds.length + new.length))) := by
  simp [appendO, appendS, hy, hA, hr, hl, esOk]
/-! a writer: a variable of one slice, and its room -/
def nums (l : List Nat) : List D := l.map fun n : Nat => .int .u64 (n : Int)
@[simp] theorem nums_length (l : List Nat) : (nums l).length = l.length := by simp [nums]
@[simp] theorem shutL_nums (n : Nat) (l : List Nat) : D.shutL n (nums l) = nums l := by
  rw [shutL_eq]; unfold nums; rw [List.map_map]; rfl
/-- a writer above the old part -/
theorem alloc_eq (cs : List D) (A : St) : allocO cs A = some (.ref A.length 0, A ++ [.cells cs]) := rfl
theorem tok_nil (off es es' : Nat) (A : St) (h : es < 1000000) : tokO [(off, es)] (.sl .full es' []) A = some (.sl (.own A.length 0) es [], A ++ [.tok 0]) := by
  have h2 : Nat.ble 1000000 es = false := by
    cases hb : Nat.ble 1000000 es with
    | false => rfl
    | true => have := Nat.le_of_ble_eq_true hb; omega
  simp [tokO, tokD, tokCell, h2]
theorem tok_vsl (off es es' : Nat) (A : St) (h : 1000000 ≤ es) : tokO [(off, es)] (.sl .full es' []) A = some (.vsl A.length 0 (es - 1000000) 0, A ++ [.cells []]) := by
  have h2 : Nat.ble 1000000 es = true := Nat.ble_eq_true_of_le h
  simp [tokO, tokD, tokCell, h2]
@[simp] theorem allCells_nil : allCells [] = true := rfl
theorem ofA2 (a b : D) : ofCells true [a, b] 0 2 = some (.agg [a, b]) := rfl
theorem ofA3 (a b c : D) : ofCells true [a, b, c] 0 3 = some (.agg [a, b, c]) := rfl
/-! a reader: a variable of the bytes that are left and the place -/
def Own.adv (o : Own) (n : Nat) : Own := match o with | .own c s => .own c (s + n) | o => o
/-! one step at a time -/
section
variable {α β γ : Type} {r : Option β}
theorem qaa {a : α} {f : α → Option β} (h : f a = r) : bn (some a) f = r := h
theorem qag {x : Option γ} {g : γ → Option α} {f : α → Option β} (h : bn x (fun a => bn (g a) f) = r) : bn (bn x g) f = r := by cases x <;> exact h
theorem qa0 {x : Option γ} {g : γ → α} {f : α → Option β} (h : bn x (fun a => f (g a)) = r) : bn (x.map g) f = r := by cases x <;> exact h
theorem qac {c : Bool} {x y : Option α} {f : α → Option β} (h : ifb c (bn x f) (bn y f) = r) : bn (ifb c x y) f = r := by cases c <;> exact h
theorem st_bnelim {x : Res} {g k : D → Option α} {f : α → Option β} (h : x.elim (fun d => bn (g d) f) (fun d => bn (k d) f) = r) : bn (x.elim g k) f = r := by cases x <;> exact h
theorem st_bnsum {δ : Type} {x : γ ⊕ δ} {g : γ → Option α} {k : δ → Option α} {f : α → Option β} (h : Sum.elim (fun d => bn (g d) f) (fun d => bn (k d) f) x = r) : bn (Sum.elim g k x) f = r := by cases x <;> exact h
theorem qaw {p : Prop} {x : Option α} {f : α → Option β} (h : guardP p (bn x f) = r) : bn (guardP p x) f = r := by
  unfold guardP at h ⊢
  split <;> simp_all
theorem qa3 {d : D} {g k : D → Option β} (h : g d = r) : (Res.ret d).elim g k = r := h
theorem qay {δ : Type} {a : γ} {g : γ → Option β} {k : δ → Option β} (h : g a = r) : Sum.elim g k (.inl a) = r := h
theorem st_inr {δ : Type} {a : δ} {g : γ → Option β} {k : δ → Option β} (h : k a = r) : Sum.elim g k (.inr a) = r := h
theorem st_guard {x : Option β} (h : x = r) : guardP True x = r := by rw [qah]; exact h
end
theorem sameAd_refl (ad : D) (A : St) : sameAd ad A A ↔ True := by
  unfold sameAd
  split <;> simp
variable {α β γ : Type}
theorem st_gs {p : Prop} {b : Bool} {x : Option β} {r : Option β} (h : guardP p x = r) : mL.gs p b x = r := h
theorem st_bngs {p : Prop} {b : Bool} {x : Option α} {f : α → Option β} {r : Option β} (h : bn (guardP p x) f = r) : bn (mL.gs p b x) f = r := h
theorem st_bngk {A A' : St} {x : Option α} {f : α → Option β} {r : Option β} (h : bn (guardP (Kept A A') x) f = r) : bn (mL.gk A A' x) f = r := h
theorem st_leave {k : RetK} {A A' : St} {x : Res} {r : ORes} (h : leaveD k A x A' = r) : leaveM mL k A x A' = r := by rw [leaveM_mL]; exact h
theorem qas {k : RetK} {A A' : St} {x : Res} {f : Res × St → Option β} {r : Option β} (h : bn (leaveD k A x A') f = r) : bn (leaveM mL k A x A') f = r := by rw [leaveM_mL]; exact h
theorem st_it {s : Env → St → Option ((Env × St) ⊕ β)} {e : Env} {A : St} {r : Option β} (h : iterK s e A = r) : mL.it s e A = r := h
theorem st_bnit {s : Env → St → Option ((Env × St) ⊕ α)} {e : Env} {A : St} {f : α → Option β} {r : Option β} (h : bn (iterK s e A) f = r) : bn (mL.it s e A) f = r := h
/-! some answer, of which P holds -/
def Tot {β : Type} (P : β → Prop) (x : Option β) : Prop := ∃ r, x = some r ∧ P r
theorem Tot.of {P : β → Prop} {x y : Option β} (h : x = y) (k : Tot P y) : Tot P x := h ▸ k
theorem Tot.ret {P : β → Prop} {r : β} (h : P r) : Tot P (some r) := ⟨r, rfl, h⟩
theorem Tot.mono {P Q : β → Prop} {x : Option β} (h : Tot P x) (k : ∀ r, P r → Q r) : Tot Q x := by obtain ⟨r, h1, h2⟩ := h; exact ⟨r, h1, k r h2⟩
theorem Tot.bn {P : β → Prop} {Q : α → Prop} {x : Option α} {f : α → Option β} (h : Tot Q x) (k : ∀ a, Q a → Tot P (f a)) : Tot P (bn x f) := by
  obtain ⟨a, h1, h2⟩ := h
  rw [h1]
  exact k a h2
theorem Tot.gb {P : β → Prop} {w b : Bool} {f : Bool → Option β} (ht : b = true → Tot P (Vm.bn (guardB w (.bool true)) f)) (hf : b = false → Tot P (Vm.bn (guardB w (.bool false)) f)) : Tot P (Vm.bn (guardB w (.bool b)) f) := by
  cases b
  · exact hf rfl
  · exact ht rfl
theorem Tot.bq {P : β → Prop} {b : Bool} {f : Bool → Option β} (ht : b = true → Tot P (f true)) (hf : b = false → Tot P (f false)) : Tot P (Vm.bn (D.bool? (.bool b)) f) := by
  cases b
  · exact hf rfl
  · exact ht rfl
theorem Tot.ifb {P : β → Prop} {b : Bool} {x y : Option β} (ht : b = true → Tot P x) (hf : b = false → Tot P y) : Tot P (Vm.ifb b x y) := by
  cases b
  · exact hf rfl
  · exact ht rfl
theorem Tot.lss {P : β → Prop} {n : Nat} {l : Bool} {k : IntKind} {a b : Int} {f : D → Option β} (ht : a < b → Tot P (f (.bool true))) (hf : ¬ a < b → Tot P (f (.bool false))) : Tot P (Vm.bn (binO .lss n l (.int k a) (.int k b)) f) := by
  rw [binO_lss]
  by_cases h : a < b
  · rw [decide_eq_true h]; exact ht h
  · rw [decide_eq_false h]; exact hf h
theorem Tot.lss_t {P : β → Prop} {n : Nat} {l : Bool} {k : IntKind} {a b : Int} {f : D → Option β} (h : a < b) (ht : Tot P (f (.bool true))) : Tot P (Vm.bn (binO .lss n l (.int k a) (.int k b)) f) := Tot.lss (fun _ => ht) fun h' => absurd h h'
theorem Tot.lss_f {P : β → Prop} {n : Nat} {l : Bool} {k : IntKind} {a b : Int} {f : D → Option β} (h : ¬ a < b) (hf : Tot P (f (.bool false))) : Tot P (Vm.bn (binO .lss n l (.int k a) (.int k b)) f) := Tot.lss (fun h' => absurd h' h) fun _ => hf
theorem Tot.leq {P : β → Prop} {n : Nat} {l : Bool} {k : IntKind} {a b : Int} {f : D → Option β} (ht : a ≤ b → Tot P (f (.bool true))) (hf : ¬ a ≤ b → Tot P (f (.bool false))) : Tot P (Vm.bn (binO .leq n l (.int k a) (.int k b)) f) := by
  rw [binO_leq]
  by_cases h : a ≤ b
  · rw [decide_eq_true h]; exact ht h
  · rw [decide_eq_false h]; exact hf h
theorem Tot.leq_t {P : β → Prop} {n : Nat} {l : Bool} {k : IntKind} {a b : Int} {f : D → Option β} (h : a ≤ b) (ht : Tot P (f (.bool true))) : Tot P (Vm.bn (binO .leq n l (.int k a) (.int k b)) f) := Tot.leq (fun _ => ht) fun h' => absurd h h'
theorem Tot.leq_f {P : β → Prop} {n : Nat} {l : Bool} {k : IntKind} {a b : Int} {f : D → Option β} (h : ¬ a ≤ b) (hf : Tot P (f (.bool false))) : Tot P (Vm.bn (binO .leq n l (.int k a) (.int k b)) f) := Tot.leq (fun h' => absurd h' h) fun _ => hf
theorem Tot.gtr {P : β → Prop} {n : Nat} {l : Bool} {k : IntKind} {a b : Int} {f : D → Option β} (ht : a > b → Tot P (f (.bool true))) (hf : ¬ a > b → Tot P (f (.bool false))) : Tot P (Vm.bn (binO .gtr n l (.int k a) (.int k b)) f) := by
  rw [binO_gtr]
  by_cases h : a > b
  · rw [decide_eq_true h]; exact ht h
  · rw [decide_eq_false h]; exact hf h
theorem Tot.gtr_t {P : β → Prop} {n : Nat} {l : Bool} {k : IntKind} {a b : Int} {f : D → Option β} (h : a > b) (ht : Tot P (f (.bool true))) : Tot P (Vm.bn (binO .gtr n l (.int k a) (.int k b)) f) := Tot.gtr (fun _ => ht) fun h' => absurd h h'
theorem Tot.gtr_f {P : β → Prop} {n : Nat} {l : Bool} {k : IntKind} {a b : Int} {f : D → Option β} (h : ¬ a > b) (hf : Tot P (f (.bool false))) : Tot P (Vm.bn (binO .gtr n l (.int k a) (.int k b)) f) := Tot.gtr (fun h' => absurd h' h) fun _ => hf
theorem Tot.geq {P : β → Prop} {n : Nat} {l : Bool} {k : IntKind} {a b : Int} {f : D → Option β} (ht : a ≥ b → Tot P (f (.bool true))) (hf : ¬ a ≥ b → Tot P (f (.bool false))) : Tot P (Vm.bn (binO .geq n l (.int k a) (.int k b)) f) := by
  rw [binO_geq]
  by_cases h : a ≥ b
  · rw [decide_eq_true h]; exact ht h
  · rw [decide_eq_false h]; exact hf h
theorem Tot.geq_t {P : β → Prop} {n : Nat} {l : Bool} {k : IntKind} {a b : Int} {f : D → Option β} (h : a ≥ b) (ht : Tot P (f (.bool true))) : Tot P (Vm.bn (binO .geq n l (.int k a) (.int k b)) f) := Tot.geq (fun _ => ht) fun h' => absurd h h'
theorem Tot.geq_f {P : β → Prop} {n : Nat} {l : Bool} {k : IntKind} {a b : Int} {f : D → Option β} (h : ¬ a ≥ b) (hf : Tot P (f (.bool false))) : Tot P (Vm.bn (binO .geq n l (.int k a) (.int k b)) f) := Tot.geq (fun h' => absurd h' h) fun _ => hf
theorem Tot.eql {P : β → Prop} {n : Nat} {l : Bool} {k : IntKind} {a b : Int} {f : D → Option β} (ht : a = b → Tot P (f (.bool true))) (hf : ¬ a = b → Tot P (f (.bool false))) : Tot P (Vm.bn (binO .eql n l (.int k a) (.int k b)) f) := by
  rw [binO_eql]
  by_cases h : a = b
  · rw [beq_t h]; exact ht h
  · rw [beq_f h]; exact hf h
theorem Tot.eql_t {P : β → Prop} {n : Nat} {l : Bool} {k : IntKind} {a b : Int} {f : D → Option β} (h : a = b) (ht : Tot P (f (.bool true))) : Tot P (Vm.bn (binO .eql n l (.int k a) (.int k b)) f) := Tot.eql (fun _ => ht) fun h' => absurd h h'
theorem Tot.eql_f {P : β → Prop} {n : Nat} {l : Bool} {k : IntKind} {a b : Int} {f : D → Option β} (h : ¬ a = b) (hf : Tot P (f (.bool false))) : Tot P (Vm.bn (binO .eql n l (.int k a) (.int k b)) f) := Tot.eql (fun h' => absurd h' h) fun _ => hf
theorem Tot.seql {P : β → Prop} {n : Nat} {l : Bool} {a b : List UInt8} {f : D → Option β} (ht : a = b → Tot P (f (.bool true))) (hf : ¬ a = b → Tot P (f (.bool false))) : Tot P (Vm.bn (binO .eql n l (.str a) (.str b)) f) := by
  have e : binO .eql n l (.str a) (.str b) = some (.bool (a == b)) := rfl
  rw [e]
  by_cases h : a = b
  · rw [beq_iff_eq.2 h]; exact ht h
  · rw [beq_eq_false_iff_ne.2 h]; exact hf h
theorem Tot.seql_t {P : β → Prop} {n : Nat} {l : Bool} {a b : List UInt8} {f : D → Option β} (h : a = b) (ht : Tot P (f (.bool true))) : Tot P (Vm.bn (binO .eql n l (.str a) (.str b)) f) := Tot.seql (fun _ => ht) fun h' => absurd h h'
theorem Tot.seql_f {P : β → Prop} {n : Nat} {l : Bool} {a b : List UInt8} {f : D → Option β} (h : ¬ a = b) (hf : Tot P (f (.bool false))) : Tot P (Vm.bn (binO .eql n l (.str a) (.str b)) f) := Tot.seql (fun h' => absurd h' h) fun _ => hf
theorem Tot.neq {P : β → Prop} {n : Nat} {l : Bool} {k : IntKind} {a b : Int} {f : D → Option β} (ht : a = b → Tot P (f (.bool false))) (hf : ¬ a = b → Tot P (f (.bool true))) : Tot P (Vm.bn (binO .neq n l (.int k a) (.int k b)) f) := by
  rw [binO_neq]
  by_cases h : a = b
  · rw [bne_f h]; exact ht h
  · rw [bne_t h]; exact hf h
theorem Tot.neq_t {P : β → Prop} {n : Nat} {l : Bool} {k : IntKind} {a b : Int} {f : D → Option β} (h : a = b) (ht : Tot P (f (.bool false))) : Tot P (Vm.bn (binO .neq n l (.int k a) (.int k b)) f) := Tot.neq (fun _ => ht) fun h' => absurd h h'
theorem Tot.neq_f {P : β → Prop} {n : Nat} {l : Bool} {k : IntKind} {a b : Int} {f : D → Option β} (h : ¬ a = b) (hf : Tot P (f (.bool true))) : Tot P (Vm.bn (binO .neq n l (.int k a) (.int k b)) f) := Tot.neq (fun h' => absurd h' h) fun _ => hf
theorem Tot.sneq {P : β → Prop} {n : Nat} {l : Bool} {a b : List UInt8} {f : D → Option β} (ht : a = b → Tot P (f (.bool false))) (hf : ¬ a = b → Tot P (f (.bool true))) : Tot P (Vm.bn (binO .neq n l (.str a) (.str b)) f) := by
  have e : binO .neq n l (.str a) (.str b) = some (.bool (!(a == b))) := rfl
  rw [e]
  by_cases h : a = b
  · rw [beq_iff_eq.2 h]; exact ht h
  · rw [beq_eq_false_iff_ne.2 h]; exact hf h
theorem Tot.sneq_t {P : β → Prop} {n : Nat} {l : Bool} {a b : List UInt8} {f : D → Option β} (h : a = b) (ht : Tot P (f (.bool false))) : Tot P (Vm.bn (binO .neq n l (.str a) (.str b)) f) := Tot.sneq (fun _ => ht) fun h' => absurd h h'
theorem Tot.sneq_f {P : β → Prop} {n : Nat} {l : Bool} {a b : List UInt8} {f : D → Option β} (h : ¬ a = b) (hf : Tot P (f (.bool true))) : Tot P (Vm.bn (binO .neq n l (.str a) (.str b)) f) := Tot.sneq (fun h' => absurd h' h) fun _ => hf
theorem Tot.gbl {P : β → Prop} {w b : Bool} {f : Bool → Option β} (h : Tot P (f (b == w))) : Tot P (Vm.bn (guardB w (.bool b)) f) := h
theorem Tot.gbn {P : β → Prop} {w : Bool} {f : Bool → Option β} (h : Tot P (f false)) : Tot P (Vm.bn (guardB w (.tup [])) f) := h
theorem Tot.bql {P : β → Prop} {b : Bool} {f : Bool → Option β} (h : Tot P (f b)) : Tot P (Vm.bn (D.bool? (.bool b)) f) := h
theorem Tot.ift {P : β → Prop} {x y : Option β} (h : Tot P x) : Tot P (Vm.ifb true x y) := h
theorem Tot.iff {P : β → Prop} {x y : Option β} (h : Tot P y) : Tot P (Vm.ifb false x y) := h
theorem Tot.iftt {P : β → Prop} {x y : Option β} (h : Tot P x) : Tot P (Vm.ifb (true == true) x y) := h
theorem Tot.ifft {P : β → Prop} {x y : Option β} (h : Tot P y) : Tot P (Vm.ifb (false == true) x y) := h
theorem Tot.iftf {P : β → Prop} {x y : Option β} (h : Tot P y) : Tot P (Vm.ifb (true == false) x y) := h
theorem Tot.ifff {P : β → Prop} {x y : Option β} (h : Tot P x) : Tot P (Vm.ifb (false == false) x y) := h
/-- a call -/
theorem Tot.call {P : β → Prop} {Q : Res × St → Prop} {x : ORes} {f : Res × St → Option β} (h : Tot Q x) (k : ∀ r, Q r → Tot P (f r)) : Tot P (Vm.bn x f) := Tot.bn h k
theorem Tot.iter {P : β → Prop} {s : Env → St → Option ((Env × St) ⊕ β)} {e : Env} {A : St} (h : Tot P (Vm.bn (s e A) fun r => Sum.elim (fun p => iterK s p.1 p.2) some r)) : Tot P (iterK s e A) := by
  rw [iterK_eq]
  unfold Vm.bn at h
  rw [bnd_eq] at h
  exact h
@[simp] theorem un_not (b : Bool) : unD .not (.bool b) = some (.bool (!b)) := rfl

/-! slots that are written down sparsely -/
theorem qai (d : D) (r : List (Nat × D)) (t : Nat) (df : List (D × List D)) : (Env.mk (sp ((0, d) :: r) t) df).g 0 = d := rfl
theorem qaj (d : D) (g k : Nat) (r : List (Nat × D)) (t : Nat) (df : List (D × List D)) : (Env.mk (sp ((g + 1, d) :: r) t) df).g (k + 1) = (Env.mk (sp ((g, d) :: r) t) df).g k := rfl
theorem qak (d : D) (k : Nat) (r : List (Nat × D)) (t : Nat) (df : List (D × List D)) : (Env.mk (sp ((0, d) :: r) t) df).g (k + 1) = (Env.mk (sp r t) df).g k := rfl
theorem mp_some {α β : Type} (a : α) (f : α → β) : mp (some a) f = some (f a) := rfl
theorem qaf (n : Int) : n64 n = .int .i64 n := rfl
theorem qax {α β γ : Type} {r : Option β} {x : Option γ} {g : γ → α} {f : α → Option β} (h : bn x (fun a => f (g a)) = r) : bn (mp x g) f = r := by cases x <;> exact h
/-! whose room it is is forgotten -/
/-- a row of data whose room is not told -/
def encL (n : Nat) (ds : List D) : D := .sl .sh (match ds with | [] => 0 | _ :: _ => n) ds
theorem encL_nil (n : Nat) : encL n [] = .sl .sh 0 [] := rfl
/-- data that are as they are, whose room is not told -/
structure Plain (d : D) : Prop where
  shut : ∀ n, d.shut n = d
  canon : d.canon = d
structure PlainL (ds : List D) : Prop where
  shut : ∀ n, D.shutL n ds = ds
  canon : D.canonL ds = ds
theorem PlainL.map {α : Type} {f : α → D} (h : ∀ x, Plain (f x)) (l : List α) : PlainL (l.map f) := by
  induction l with
  | nil => exact ⟨fun n => rfl, rfl⟩
  | cons x l ih => exact ⟨fun n => by simp [D.shutL, (h x).shut, ih.shut], by simp [D.canonL, (h x).canon, ih.canon]⟩
theorem encL_plain {ds : List D} (h : PlainL ds) (n : Nat) : Plain (encL n ds) := by
  refine ⟨fun m => ?_, ?_⟩
  · unfold encL; simp [h.shut]
  · unfold encL
    cases ds with
    | nil => rfl
    | cons d ds => simp only [D.canon, h.canon]
theorem canon_sl {ds : List D} (h : PlainL ds) (o : Own) (n : Nat) : (D.sl o n ds).canon = encL n ds := by
  cases ds with
  | nil => rfl
  | cons d ds => simp only [D.canon, encL, h.canon]
@[simp] theorem qam (k : IntKind) (n : Int) : (D.int k n).canon = .int k n := rfl
@[simp] theorem qat (b : Bool) : (D.bool b).canon = .bool b := rfl
@[simp] theorem canon_str (s : List UInt8) : (D.str s).canon = .str s := rfl
@[simp] theorem canon_any : D.any.canon = .any := rfl
@[simp] theorem canon_ref (k o : Nat) : (D.ref k o).canon = .ref k o := rfl
@[simp] theorem canon_val (v : Value) : (D.val v).canon = .val v := rfl
@[simp] theorem canon_vsl (k o es n : Nat) : (D.vsl k o es n).canon = .vsl k o es n := rfl
theorem canon_agg (cs : List D) : (D.agg cs).canon = .agg (D.canonL cs) := rfl
theorem canon_tup (cs : List D) : (D.tup cs).canon = .tup (D.canonL cs) := rfl
theorem canonL_nil : D.canonL [] = [] := rfl
theorem canonL_cons (d : D) (ds : List D) : D.canonL (d :: ds) = d.canon :: D.canonL ds := rfl
theorem canon_nil (o : Own) (es : Nat) : (D.sl o es []).canon = .sl .sh 0 [] := rfl
@[simp] theorem qab (d : D) : (Res.ret d).canon = .ret d.canon := rfl
@[simp] theorem Res_canon_pan (d : D) : (Res.pan d).canon = .pan d.canon := rfl
theorem qal (A : St) (r : Res) (A' : St) : leaveD .can A r A' = guardP (Kept A A') (some ((r.shut A.length).canon, A'.take A.length)) := rfl
@[simp] theorem qaz (n : Nat) (ds : List D) : lenSlO (encL n ds) = some (.int .i64 ds.length) := rfl
theorem esOk_encL (n : Nat) (ds : List D) : esOk .sh (match ds with | [] => 0 | _ :: _ => n) n ds = true := by
  cases ds <;> simp [esOk, Own.isOwn]
/-- a row of pure values -/
theorem idx_map {α : Type} {f : α → D} {l : List α} {i : Nat} (h : i < l.length) (n : Nat) (g : Bool) (k : IntKind) : indexAddrO n g (encL n (l.map f)) (.int k (i : Int)) = mp ((f l[i]).cellsT g) .peek := by
  simp [indexAddrO, D.int?, encL, esOk_encL, List.getElem?_eq_getElem h, mp]
theorem appendNew_encL (n : Nat) (ds : List D) : appendNew n (encL n ds) = some ds := by
  simp [appendNew, encL, esOk_encL]
@[simp] theorem cell_encL (n : Nat) (ds : List D) : (encL n ds).cellsT false = some [encL n ds] := rfl
theorem cell_str (s : List UInt8) : (D.str s).cellsT false = some [.str s] := rfl
/-! equations by steps -/
theorem Tot.eq {β : Type} {x : Option β} {r : β} (h : Tot (fun y => y = r) x) : x = some r := by
  obtain ⟨a, h1, h2⟩ := h
  rw [h1, h2]
theorem Tot.eqo {β : Type} {x y : Option β} {r : β} (hy : y = some r) (h : x = y) : Tot (fun z => z = r) x := ⟨r, h.trans hy, rfl⟩
theorem Tot.of_eq {β : Type} {x : Option β} {r : β} (h : x = some r) : Tot (fun z => z = r) x := ⟨r, h, rfl⟩
section
variable {α β : Type} {P : β → Prop} {b c w : Bool} {p : Prop} {dp : Decidable p}
theorem Tot.gb_t {f : Bool → Option β} (h : b = true) (k : Tot P (Vm.bn (guardB w (.bool true)) f)) : Tot P (Vm.bn (guardB w (.bool b)) f) := by subst h; exact k
theorem Tot.gb_f {f : Bool → Option β} (h : b = false) (k : Tot P (Vm.bn (guardB w (.bool false)) f)) : Tot P (Vm.bn (guardB w (.bool b)) f) := by subst h; exact k
theorem Tot.gb_n {f : Bool → Option β} (k : Tot P (Vm.bn (guardB w (.bool b)) fun t => f (!t))) : Tot P (Vm.bn (guardB w (.bool (!b))) f) := by
  have e : guardB w (.bool (!b)) = (guardB w (.bool b)).map (fun t => !t) := by cases w <;> cases b <;> rfl
  rw [e]
  exact Tot.of (qa0 rfl) k
theorem Tot.gb_and {f : Bool → Option β} (k : Tot P (Vm.bn (D.bool? (.bool b)) fun s => Vm.bn (guardB w (.bool (s && c))) f)) : Tot P (Vm.bn (guardB w (.bool (b && c))) f) := k
theorem Tot.gb_dt {f : Bool → Option β} (h : p) (k : Tot P (Vm.bn (guardB w (.bool true)) f)) : Tot P (Vm.bn (guardB w (.bool (@decide p dp))) f) := by rw [decide_eq_true h]; exact k
theorem Tot.gb_df {f : Bool → Option β} (h : ¬ p) (k : Tot P (Vm.bn (guardB w (.bool false)) f)) : Tot P (Vm.bn (guardB w (.bool (@decide p dp))) f) := by rw [decide_eq_false h]; exact k
theorem Tot.gb_d {f : Bool → Option β} (ht : p → Tot P (Vm.bn (guardB w (.bool true)) f)) (hf : ¬ p → Tot P (Vm.bn (guardB w (.bool false)) f)) : Tot P (Vm.bn (guardB w (.bool (@decide p dp))) f) := by
  by_cases h : p
  · exact Tot.gb_dt h (ht h)
  · exact Tot.gb_df h (hf h)
theorem Tot.bq_t {f : Bool → Option β} (h : b = true) (k : Tot P (f true)) : Tot P (Vm.bn (D.bool? (.bool b)) f) := by subst h; exact k
theorem Tot.bq_f {f : Bool → Option β} (h : b = false) (k : Tot P (f false)) : Tot P (Vm.bn (D.bool? (.bool b)) f) := by subst h; exact k
theorem Tot.bq_n {f : Bool → Option β} (k : Tot P (Vm.bn (D.bool? (.bool b)) fun t => f (!t))) : Tot P (Vm.bn (D.bool? (.bool (!b))) f) := k
theorem Tot.bq_dt {f : Bool → Option β} (h : p) (k : Tot P (f true)) : Tot P (Vm.bn (D.bool? (.bool (@decide p dp))) f) := by rw [decide_eq_true h]; exact k
theorem Tot.bq_df {f : Bool → Option β} (h : ¬ p) (k : Tot P (f false)) : Tot P (Vm.bn (D.bool? (.bool (@decide p dp))) f) := by rw [decide_eq_false h]; exact k
theorem Tot.bq_d {f : Bool → Option β} (ht : p → Tot P (f true)) (hf : ¬ p → Tot P (f false)) : Tot P (Vm.bn (D.bool? (.bool (@decide p dp))) f) := by
  by_cases h : p
  · exact Tot.bq_dt h (ht h)
  · exact Tot.bq_df h (hf h)
theorem Tot.if_t {x y : Option β} (h : b = true) (k : Tot P x) : Tot P (Vm.ifb b x y) := by subst h; exact k
theorem Tot.if_f {x y : Option β} (h : b = false) (k : Tot P y) : Tot P (Vm.ifb b x y) := by subst h; exact k
theorem Tot.if_n {x y : Option β} (k : Tot P (Vm.ifb b y x)) : Tot P (Vm.ifb (!b) x y) := by cases b <;> exact k
end
end Go.Vm
