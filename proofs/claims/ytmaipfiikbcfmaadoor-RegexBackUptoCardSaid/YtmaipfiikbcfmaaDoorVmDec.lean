/- Whether data are closed at a bound, and whether two are the same, reckoned. -/
import Derived.Test.YtmaipfiikbcfmaaDoorVmAbs
set_option linter.all false
namespace Go.Vm
set_option linter.unusedVariables false
/-! what is looked up classically, or reckoned -/
mutual
/-- are a datum's slots all below n? -/
def D.shutB (n : Nat) : D → Bool
  | .agg cs => D.shutLB n cs
  | .tup ds => D.shutLB n ds
  | .sl o es ds => (match o with | .own c _ => decide (c < n) | _ => true) && D.shutLB n ds
  | .vsl k _ _ _ => decide (k < n)
  | .ref k _ => decide (k < n)
  | .peek cs => D.shutLB n cs
  | .fn _ a b => D.shutLB n a && D.shutLB n b
  | .iface _ d => d.shutB n
  | .yld _ k => decide (k < n)
  | _ => true
def D.shutLB (n : Nat) : List D → Bool
  | [] => true
  | d :: r => d.shutB n && D.shutLB n r
end
mutual
theorem D.shutB_eq (n : Nat) : ∀ d : D, d.shutB n = true → d.shut n = d
  | .agg cs, h => by simp only [D.shutB] at h; simp only [D.shut, D.shutLB_eq n cs h]
  | .tup ds, h => by simp only [D.shutB] at h; simp only [D.shut, D.shutLB_eq n ds h]
  | .sl o es ds, h => by
    simp only [D.shutB, Bool.and_eq_true] at h
    simp only [D.shut, D.shutLB_eq n ds h.2]
    cases o with
    | own c s => simp only [decide_eq_true_eq] at h; simp [Own.shut, h.1]
    | sh => rfl
    | full => rfl
  | .vsl k _ _ _, h => by simp only [D.shutB, decide_eq_true_eq] at h; simp [D.shut, h]
  | .ref k _, h => by simp only [D.shutB, decide_eq_true_eq] at h; simp [D.shut, h]
  | .peek cs, h => by simp only [D.shutB] at h; simp only [D.shut, D.shutLB_eq n cs h]
  | .fn _ a b, h => by simp only [D.shutB, Bool.and_eq_true] at h; simp only [D.shut, D.shutLB_eq n a h.1, D.shutLB_eq n b h.2]
  | .iface _ d, h => by simp only [D.shutB] at h; simp only [D.shut, D.shutB_eq n d h]
  | .yld _ k, h => by simp only [D.shutB, decide_eq_true_eq] at h; simp [D.shut, h]
  | .any, _ => by simp [D.shut]
  | .bool _, _ => by simp [D.shut]
  | .int _ _, _ => by simp [D.shut]
  | .str _, _ => by simp [D.shut]
  | .val _, _ => by simp [D.shut]
theorem D.shutLB_eq (n : Nat) : ∀ ds : List D, D.shutLB n ds = true → D.shutL n ds = ds
  | [], _ => by simp [D.shutL]
  | d :: r, h => by
    simp only [D.shutLB, Bool.and_eq_true] at h
    simp only [D.shutL, D.shutB_eq n d h.1, D.shutLB_eq n r h.2]
end
def Slot.shutB (n : Nat) : Slot → Bool
  | .cells cs => D.shutLB n cs
  | .loop _ t _ _ => D.shutLB n t
  | _ => true
theorem Slot.shutB_eq (n : Nat) (s : Slot) (h : s.shutB n = true) : s.shut n = s := by
  cases s with
  | cells cs => simp only [Slot.shutB] at h; simp only [Slot.shut, D.shutLB_eq n _ h]
  | loop f t rf st => simp only [Slot.shutB] at h; simp only [Slot.shut, D.shutLB_eq n _ h]
  | _ => rfl
def shutAllB (n : Nat) : Nat → St → Bool
  | 0, _ => true
  | _ + 1, [] => false
  | k + 1, s :: r => s.shutB n && shutAllB n k r
theorem shutAllB_eq (n : Nat) : ∀ (k : Nat) (A : St), shutAllB n k A = true → ∀ i, i < k → ∃ s, A[i]? = some s ∧ s.shut n = s
  | 0, _, _, i, hi => by omega
  | k + 1, [], h, i, hi => by simp [shutAllB] at h
  | k + 1, s :: r, h, i, hi => by
    simp only [shutAllB, Bool.and_eq_true] at h
    cases i with
    | zero => exact ⟨s, rfl, Slot.shutB_eq n s h.1⟩
    | succ i => simpa using shutAllB_eq n k r h.2 i (by omega)
def keptB (A A' : St) : Bool := shutAllB A.length A.length A'
theorem keptB_eq {A A' : St} (h : keptB A A' = true) : Kept A A' := by
  refine ⟨?_, fun k hk => .inr (shutAllB_eq _ _ _ h k hk)⟩
  cases hA : A.length with
  | zero => exact Nat.zero_le _
  | succ n =>
    obtain ⟨s, hs, _⟩ := shutAllB_eq _ _ _ h n (by omega)
    exact (List.getElem?_eq_some_iff.1 hs).1
mutual
def D.eqb : D → D → Bool
  | .any, .any => true
  | .bool a, .bool b => a == b
  | .int k a, .int k' b => decide (k = k') && a == b
  | .str a, .str b => a == b
  | .agg a, .agg b => D.eqbL a b
  | .tup a, .tup b => D.eqbL a b
  | .sl o es ds, .sl o' es' ds' => decide (o = o') && es == es' && D.eqbL ds ds'
  | .vsl k a b c, .vsl k' a' b' c' => k == k' && a == a' && b == b' && c == c'
  | .ref k a, .ref k' a' => k == k' && a == a'
  | .peek a, .peek b => D.eqbL a b
  | .iface t a, .iface t' b => t == t' && D.eqb a b
  | .yld m k, .yld m' k' => m == m' && k == k'
  | .val (.pointer none), .val (.pointer none) => true
  | .val .nilIface, .val .nilIface => true
  | .val .nilFunc, .val .nilFunc => true
  | .fn (.func f) a b, .fn (.func f') a' b' => f == f' && D.eqbL a a' && D.eqbL b b'
  | _, _ => false
def D.eqbL : List D → List D → Bool
  | [], [] => true
  | a :: r, b :: s => D.eqb a b && D.eqbL r s
  | _, _ => false
end
mutual
theorem D.eqb_eq : ∀ (x y : D), D.eqb x y = true → x = y
  | .any, y, h => by cases y <;> simp_all [D.eqb]
  | .bool a, y, h => by cases y <;> simp_all [D.eqb]
  | .int k a, y, h => by cases y <;> simp_all [D.eqb]
  | .str a, y, h => by cases y <;> simp_all [D.eqb]
  | .agg a, y, h => by
    cases y <;> simp only [D.eqb, Bool.false_eq_true] at h
    rw [D.eqbL_eq _ _ h]
  | .tup a, y, h => by
    cases y <;> simp only [D.eqb, Bool.false_eq_true] at h
    rw [D.eqbL_eq _ _ h]
  | .sl o es ds, y, h => by
    cases y <;> simp only [D.eqb, Bool.false_eq_true, Bool.and_eq_true, decide_eq_true_eq, beq_iff_eq] at h
    rw [h.1.1, h.1.2, D.eqbL_eq _ _ h.2]
  | .vsl k a b c, y, h => by cases y <;> simp_all [D.eqb]
  | .ref k a, y, h => by cases y <;> simp_all [D.eqb]
  | .peek a, y, h => by
    cases y <;> simp only [D.eqb, Bool.false_eq_true] at h
    rw [D.eqbL_eq _ _ h]
  | .iface t a, y, h => by
    cases y <;> simp only [D.eqb, Bool.false_eq_true, Bool.and_eq_true, beq_iff_eq] at h
    rw [h.1, D.eqb_eq _ _ h.2]
  | .yld m k, y, h => by cases y <;> simp_all [D.eqb]
  | .val v, y, h => by
    cases y <;> try (simp [D.eqb] at h; done)
    unfold D.eqb at h
    split at h <;> simp_all
  | .fn f a b, .fn f' a' b', h => by
    cases f <;> cases f' <;> simp only [D.eqb, Bool.false_eq_true, Bool.and_eq_true, beq_iff_eq] at h
    rw [h.1.1, D.eqbL_eq _ _ h.1.2, D.eqbL_eq _ _ h.2]
  | .fn f a b, .any, h | .fn f a b, .bool _, h | .fn f a b, .int _ _, h | .fn f a b, .str _, h | .fn f a b, .val _, h | .fn f a b, .agg _, h | .fn f a b, .tup _, h
  | .fn f a b, .sl _ _ _, h | .fn f a b, .vsl _ _ _ _, h | .fn f a b, .ref _ _, h | .fn f a b, .peek _, h | .fn f a b, .iface _ _, h | .fn f a b, .yld _ _, h => by simp [D.eqb] at h
theorem D.eqbL_eq : ∀ (x y : List D), D.eqbL x y = true → x = y
  | [], y, h => by cases y <;> simp_all [D.eqbL]
  | a :: r, y, h => by
    cases y <;> simp only [D.eqbL, Bool.false_eq_true, Bool.and_eq_true] at h
    rw [D.eqb_eq _ _ h.1, D.eqbL_eq _ _ h.2]
end
end Go.Vm
