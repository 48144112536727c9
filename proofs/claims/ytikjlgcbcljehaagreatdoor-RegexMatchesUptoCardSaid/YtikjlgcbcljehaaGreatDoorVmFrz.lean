/- VmRep, VmInv, VmFrz in one text. -/
import Derived.Test.YtikjlgcbcljehaaGreatDoorVmAbs
import Derived.Below
set_option linter.all false
/- How the abstract values and store stand for the model's values and memory; what is kept from world to world. -/
namespace Go.Vm
open Go.RowKit
set_option linter.unusedVariables false

inductive Bind where
  | var (b o n x : Nat)
  | tok (r : Option (Nat × Nat × Nat)) (n : Nat)
  | none
  | wait
  | obj (l : Nat)

structure Gh where
  base : Nat
  len : Nat
  m : Nat → Bind
  S : Nat → Nat → Prop

def Gh.stab (g : Gh) (b off : Nat) : Prop := b < g.base ∨ g.S b off

def isAtom : Value → Bool
  | .pointer none | .nilFunc | .nilIface | .map none => true
  | _ => false

def OwnOk (g : Gh) (o : Own) (es len : Nat) (a : Option Addr) (cap : Nat) : Prop :=
  match o with
  | .sh => True
  | .full => cap = len
  | .own c s => c < g.len ∧ ∀ r n, g.m c = .tok r n → s + len ≤ n ∧ (s + len = n → cap = len ∨
      ∃ b e lim off, r = some (b, e, lim) ∧ a = some ⟨b, off, none⟩ ∧ off + len * es = e ∧ off + cap * es ≤ lim)

/-- a slice over a variable: at which cells it stands; whose the room behind it is -/
def VslOk (b o n x : Nat) (a : Option Addr) (cap off es len : Nat) : Prop :=
  off + len * es ≤ n ∧ (a = some ⟨b, o + off, none⟩ ∨ (len = 0 ∧ cap = 0)) ∧ (off + len * es = n → cap * es ≤ len * es + x)

/-- a value of so many cells -/
def VC (n : Nat) (v : Value) : Prop := v.cells.size = n ∧ ∀ u ∈ v.cells, u.oneCell' = true
mutual
def Rep (g : Gh) (w : World) : D → Value → Prop
  | .any, _ => True
  | .bool b, v => v = .bool b
  | .int k n, v => v = .int k n
  | .str s, v => ∃ x : ByteArray, v = .string x ∧ x.data.toList = s
  | .val u, v => v = u ∧ isAtom u = true
  | .agg cs, v => ∃ vs : Array Value, v = .agg vs ∧ RepL g w cs vs.toList
  | .tup ds, v => ∃ vs : Array Value, v = .tuple vs ∧ RepL g w ds vs.toList
  | .sl o es ds, v => ∃ a cap, v = .slice a ds.length cap ∧ ds.length ≤ cap ∧ OwnOk g o es ds.length a cap ∧
      (ds ≠ [] → ∃ b off, a = some ⟨b, off, none⟩ ∧ RepRow g w b es ds off)
  | .vsl k off es len, v => k < g.len ∧ ∃ a cap, v = .slice a len cap ∧ (len ≤ cap ∧ (a = none → len = 0)) ∧ g.m k ≠ .wait ∧ ∀ b o n x, g.m k = .var b o n x → VslOk b o n x a cap off es len
  | .ref k off, v => k < g.len ∧ ∃ a, v = .pointer (some a) ∧ g.m k ≠ .wait ∧ ∀ b o n x, g.m k = .var b o n x → a = ⟨b, o + off, none⟩
  | .peek cs, v => ∃ b off, v = .pointer (some ⟨b, off, none⟩) ∧ RepAt g w b cs off
  | .fn f first cap, v => ∃ fs cs : Array Value, v = .func f fs cs ∧ RepL g w first fs.toList ∧ RepL g w cap cs.toList
  | .iface t d, v => ∃ u, v = .iface t u ∧ Rep g w d u
  | .yld m k, v => m = false ∧ k < g.len ∧ ∃ l, v = .func (.yield l) #[] #[] ∧ g.m k ≠ .wait ∧ ∀ l', g.m k = .obj l' → l = l'
def RepL (g : Gh) (w : World) : List D → List Value → Prop
  | [], vs => vs = []
  | d :: ds, vs => ∃ v r, vs = v :: r ∧ Rep g w d v ∧ RepL g w ds r
def RepAt (g : Gh) (w : World) (b : Nat) : List D → Nat → Prop
  | [], _ => True
  | d :: ds, off => (∃ v, g.stab b off ∧ w.cell? ⟨b, off, none⟩ = some v ∧ Rep g w d v) ∧ RepAt g w b ds (off + 1)
def RepRow (g : Gh) (w : World) (b es : Nat) : List D → Nat → Prop
  | [], _ => True
  | d :: ds, off => (∃ v, Rep g w d v ∧ VC es v ∧ ∀ j, j < es → g.stab b (off + j) ∧ w.cell? ⟨b, off + j, none⟩ = v.cells[j]?) ∧ RepRow g w b es ds (off + es)
end

theorem canonL_length (ds : List D) : (D.canonL ds).length = ds.length := by
  induction ds with
  | nil => rfl
  | cons d ds ih => simp [D.canonL, ih]
mutual
theorem Rep.canon {g : Gh} {w : World} : ∀ (d : D) (v : Value), Rep g w d v → Rep g w d.canon v
  | .any, _, h => by simpa [D.canon] using h
  | .bool _, _, h => by simpa [D.canon] using h
  | .int _ _, _, h => by simpa [D.canon] using h
  | .str _, _, h => by simpa [D.canon] using h
  | .val _, _, h => by simpa [D.canon] using h
  | .agg cs, v, h => by
    simp only [D.canon, Rep] at h ⊢
    obtain ⟨vs, rfl, h⟩ := h
    exact ⟨vs, rfl, RepL.canon cs _ h⟩
  | .tup ds, v, h => by
    simp only [D.canon, Rep] at h ⊢
    obtain ⟨vs, rfl, h⟩ := h
    exact ⟨vs, rfl, RepL.canon ds _ h⟩
  | .sl o es ds, v, h => by
    simp only [D.canon, Rep] at h ⊢
    obtain ⟨a, cap, rfl, hc, ho, hr⟩ := h
    cases ds with
    | nil => exact ⟨a, cap, by simp [D.canonL], by simp [D.canonL], trivial, fun hne => absurd (by simp [D.canonL]) hne⟩
    | cons d ds =>
      obtain ⟨b, off, rfl, hrow⟩ := hr (by simp)
      refine ⟨_, cap, by rw [canonL_length], by rw [canonL_length]; exact hc, trivial, fun _ => ⟨b, off, rfl, RepRow.canon b es _ off hrow⟩⟩
  | .vsl _ _ _ _, _, h => by simpa [D.canon] using h
  | .ref _ _, _, h => by simpa [D.canon] using h
  | .peek cs, v, h => by
    simp only [D.canon, Rep] at h ⊢
    obtain ⟨b, off, rfl, h⟩ := h
    exact ⟨b, off, rfl, RepAt.canon b cs off h⟩
  | .fn f first cap, v, h => by
    simp only [D.canon, Rep] at h ⊢
    obtain ⟨fs, cs, rfl, h1, h2⟩ := h
    exact ⟨fs, cs, rfl, RepL.canon first _ h1, RepL.canon cap _ h2⟩
  | .iface t d, v, h => by
    simp only [D.canon, Rep] at h ⊢
    obtain ⟨u, rfl, h⟩ := h
    exact ⟨u, rfl, Rep.canon d u h⟩
  | .yld _ _, _, h => by simpa [D.canon] using h
theorem RepL.canon {g : Gh} {w : World} : ∀ (ds : List D) (vs : List Value), RepL g w ds vs → RepL g w (D.canonL ds) vs
  | [], _, h => by simpa [D.canonL] using h
  | d :: ds, _, h => by
    simp only [D.canonL, RepL] at h ⊢
    obtain ⟨v, r, rfl, h1, h2⟩ := h
    exact ⟨v, r, rfl, Rep.canon d v h1, RepL.canon ds r h2⟩
theorem RepAt.canon {g : Gh} {w : World} (b : Nat) : ∀ (ds : List D) (off : Nat), RepAt g w b ds off → RepAt g w b (D.canonL ds) off
  | [], _, h => by simpa [D.canonL] using h
  | d :: ds, off, h => by
    simp only [D.canonL, RepAt] at h ⊢
    obtain ⟨⟨v, h1, h2, h3⟩, h4⟩ := h
    exact ⟨⟨v, h1, h2, Rep.canon d v h3⟩, RepAt.canon b ds _ h4⟩
theorem RepRow.canon {g : Gh} {w : World} (b es : Nat) : ∀ (ds : List D) (off : Nat), RepRow g w b es ds off → RepRow g w b es (D.canonL ds) off
  | [], _, h => by simpa [D.canonL] using h
  | d :: ds, off, h => by
    simp only [D.canonL, RepRow] at h ⊢
    obtain ⟨⟨v, h1, h2⟩, h4⟩ := h
    exact ⟨⟨v, Rep.canon d v h1, h2⟩, RepRow.canon b es ds _ h4⟩
end
theorem canonL_eq (ds : List D) : D.canonL ds = ds.map D.canon := by
  induction ds with
  | nil => rfl
  | cons d ds ih => simp [D.canonL, ih]
theorem canA_length (h : Hints) (ds : List D) : (canA h ds).length = ds.length := by
  unfold canA
  cases h.canA <;> simp
theorem RepL.canA {g : Gh} {w : World} (h : Hints) {ds : List D} {vs : List Value} (k : RepL g w ds vs) : RepL g w (canA h ds) vs := by
  unfold Go.Vm.canA
  cases h.canA
  · exact k
  · rw [cond_true, ← canonL_eq]; exact RepL.canon ds vs k

/-- how a binding may have gone on -/
def BindLe (x y : Bind) : Prop := y = x ∨ (x ≠ .wait ∧ y = .none) ∨ ∃ r n r' n', x = .tok r n ∧ y = .tok r' n' ∧ n < n'

theorem BindLe.refl (x : Bind) : BindLe x x := .inl rfl
theorem BindLe.trans {x y z : Bind} (h : BindLe x y) (k : BindLe y z) : BindLe x z := by
  rcases k with rfl | ⟨k, rfl⟩ | ⟨r, n, r', n', rfl, rfl, hn⟩
  · exact h
  · refine .inr (.inl ⟨?_, rfl⟩)
    rintro rfl
    rcases h with h | h | ⟨r1, n1, r2, n2, h1, h2, h3⟩
    · exact k h
    · exact h.1 rfl
    · cases h1
  · rcases h with h | h | ⟨r1, n1, r2, n2, rfl, h2, h3⟩
    · subst h; exact .inr (.inr ⟨_, _, _, _, rfl, rfl, hn⟩)
    · cases h.2
    · cases h2; exact .inr (.inr ⟨_, _, _, _, rfl, rfl, by omega⟩)
/-- a slot that has waited may have got its block -/
def BindGo (x y : Bind) : Prop := BindLe x y ∨ (x = .wait ∧ ∃ b o n z, y = .var b o n z)
theorem BindGo.ne {x y : Bind} (h : BindGo x y) (hx : x ≠ .wait) : BindLe x y ∧ y ≠ .wait := by
  rcases h with h | h
  · refine ⟨h, ?_⟩
    rcases h with h | h | ⟨r1, n1, r2, n2, h1, h2, h3⟩
    · rw [h]; exact hx
    · rw [h.2]; exact fun e => by cases e
    · rw [h2]; exact fun e => by cases e
  · exact absurd h.1 hx

/-- what a datum's meaning needs to be kept: its stable cells, and the bindings that are still there -/
structure Keeps (g : Gh) (w : World) (g' : Gh) (w' : World) : Prop where
  stab : ∀ b off, g.stab b off → g'.stab b off
  cell : ∀ b off, g.stab b off → w'.cell? ⟨b, off, none⟩ = w.cell? ⟨b, off, none⟩
  bind : ∀ k, k < g.len → k < g'.len → BindGo (g.m k) (g'.m k)

theorem shutL_eq (n : Nat) (ds : List D) : D.shutL n ds = ds.map (D.shut n) := by
  induction ds with
  | nil => simp [D.shutL]
  | cons d ds ih => simp [D.shutL, ih]
@[simp] theorem shutL_length (n : Nat) (ds : List D) : (D.shutL n ds).length = ds.length := by simp [shutL_eq]

section
variable {g g' : Gh} {w w' : World} (K : Keeps g w g' w')
include K
theorem OwnOk.keep {o : Own} {es len : Nat} {a : Option Addr} {cap : Nat} (h : OwnOk g o es len a cap) :
    OwnOk g' (o.shut g'.len) es len a cap := by
  cases o with
  | sh => trivial
  | full => exact h
  | own c s =>
    simp only [Own.shut]
    split
    · rename_i hc
      refine ⟨hc, fun r n hm => ?_⟩
      have hb := K.bind c h.1 hc
      rw [hm] at hb
      rcases hb with (hb | hb | ⟨r1, n1, r2, n2, h1, h2, h3⟩) | ⟨_, b1, o1, n1, z1, hb⟩
      · exact h.2 r n hb.symm
      · cases hb.2
      · cases h2
        have := h.2 r1 n1 h1
        exact ⟨by omega, fun e => by omega⟩
      · cases hb
    · trivial
mutual
theorem Rep.keep : ∀ (d : D) (v : Value), Rep g w d v → Rep g' w' (d.shut g'.len) v
  | .any, _, _ => by simp [D.shut, Rep]
  | .bool _, _, h => by simpa [D.shut, Rep] using h
  | .int _ _, _, h => by simpa [D.shut, Rep] using h
  | .str _, _, h => by simpa [D.shut, Rep] using h
  | .val _, _, h => by simpa [D.shut, Rep] using h
  | .agg cs, v, h => by
    simp only [D.shut, Rep] at h ⊢
    obtain ⟨vs, rfl, h⟩ := h
    exact ⟨vs, rfl, RepL.keep cs _ h⟩
  | .tup ds, v, h => by
    simp only [D.shut, Rep] at h ⊢
    obtain ⟨vs, rfl, h⟩ := h
    exact ⟨vs, rfl, RepL.keep ds _ h⟩
  | .sl o es ds, v, h => by
    simp only [D.shut, Rep] at h ⊢
    obtain ⟨a, cap, rfl, hc, ho, hr⟩ := h
    refine ⟨a, cap, by simp, by simpa using hc, by rw [shutL_length]; exact ho.keep K, fun hne => ?_⟩
    obtain ⟨b, off, rfl, hrow⟩ := hr (by rintro rfl; exact hne (by simp [D.shutL]))
    exact ⟨b, off, rfl, RepRow.keep b es ds off hrow⟩
  | .vsl k off es len, v, h => by
    simp only [D.shut, Rep] at h ⊢
    split
    · rename_i hk
      obtain ⟨h0, a, cap, rfl, hc, hw, ha⟩ := h
      simp only [Rep]
      obtain ⟨hle, hne⟩ := (K.bind k h0 hk).ne hw
      refine ⟨hk, a, cap, rfl, hc, hne, fun b o n x hm => ?_⟩
      rcases hle with hb | hb | ⟨r1, n1, r2, n2, h1, h2, h3⟩
      · exact ha b o n x (hb ▸ hm)
      · rw [hb.2] at hm; cases hm
      · rw [h2] at hm; cases hm
    · simp [Rep]
  | .ref k off, v, h => by
    simp only [D.shut, Rep] at h ⊢
    split
    · rename_i hk
      obtain ⟨h0, a, rfl, hw, ha⟩ := h
      simp only [Rep]
      obtain ⟨hle, hne⟩ := (K.bind k h0 hk).ne hw
      refine ⟨hk, a, rfl, hne, fun b o n x hm => ?_⟩
      rcases hle with hb | hb | ⟨r1, n1, r2, n2, h1, h2, h3⟩
      · exact ha b o n x (hb ▸ hm)
      · rw [hb.2] at hm; cases hm
      · rw [h2] at hm; cases hm
    · simp [Rep]
  | .peek cs, v, h => by
    simp only [D.shut, Rep] at h ⊢
    obtain ⟨b, off, rfl, h⟩ := h
    exact ⟨b, off, rfl, RepAt.keep b cs off h⟩
  | .fn f first cap, v, h => by
    simp only [D.shut, Rep] at h ⊢
    obtain ⟨fs, cs, rfl, h1, h2⟩ := h
    exact ⟨fs, cs, rfl, RepL.keep first _ h1, RepL.keep cap _ h2⟩
  | .iface t d, v, h => by
    simp only [D.shut, Rep] at h ⊢
    obtain ⟨u, rfl, h⟩ := h
    exact ⟨u, rfl, Rep.keep d u h⟩
  | .yld m k, v, h => by
    simp only [D.shut, Rep] at h ⊢
    split
    · rename_i hk
      obtain ⟨hm, h0, l, rfl, hw, ha⟩ := h
      simp only [Rep]
      obtain ⟨hle, hne⟩ := (K.bind k h0 hk).ne hw
      refine ⟨hm, hk, l, rfl, hne, fun l' hm => ?_⟩
      rcases hle with hb | hb | ⟨r1, n1, r2, n2, h1, h2, h3⟩
      · exact ha l' (hb ▸ hm)
      · rw [hb.2] at hm; cases hm
      · rw [h2] at hm; cases hm
    · simp [Rep]
theorem RepL.keep : ∀ (ds : List D) (vs : List Value), RepL g w ds vs → RepL g' w' (D.shutL g'.len ds) vs
  | [], vs, h => by simpa [D.shutL, RepL] using h
  | d :: ds, vs, h => by
    simp only [D.shutL, RepL] at h ⊢
    obtain ⟨v, r, rfl, h1, h2⟩ := h
    exact ⟨v, r, rfl, Rep.keep d v h1, RepL.keep ds r h2⟩
theorem RepAt.keep : ∀ (b : Nat) (ds : List D) (off : Nat), RepAt g w b ds off → RepAt g' w' b (D.shutL g'.len ds) off
  | b, [], off, h => by simp [D.shutL, RepAt]
  | b, d :: ds, off, h => by
    simp only [D.shutL, RepAt] at h ⊢
    obtain ⟨⟨v, h1, h2, h3⟩, h4⟩ := h
    exact ⟨⟨v, K.stab _ _ h1, (K.cell _ _ h1).trans h2, Rep.keep d v h3⟩, RepAt.keep b ds (off + 1) h4⟩
theorem RepRow.keep : ∀ (b es : Nat) (ds : List D) (off : Nat), RepRow g w b es ds off → RepRow g' w' b es (D.shutL g'.len ds) off
  | b, es, [], off, h => by simp [D.shutL, RepRow]
  | b, es, d :: ds, off, h => by
    simp only [D.shutL, RepRow] at h ⊢
    obtain ⟨⟨v, h1, h2, h3⟩, h4⟩ := h
    exact ⟨⟨v, Rep.keep d v h1, h2, fun j hj => ⟨K.stab _ _ (h3 j hj).1, (K.cell _ _ (h3 j hj).1).trans (h3 j hj).2⟩⟩, RepRow.keep b es ds (off + es) h4⟩
end
end

mutual
theorem Rep.shut_id {g : Gh} {w : World} {n : Nat} (hn : g.len ≤ n) : ∀ (d : D) (v : Value), Rep g w d v → d.shut n = d
  | .any, _, _ => by simp [D.shut]
  | .bool _, _, h => by simp [D.shut]
  | .int _ _, _, h => by simp [D.shut]
  | .str _, _, h => by simp [D.shut]
  | .val _, _, h => by simp [D.shut]
  | .agg cs, v, h => by
    simp only [D.shut, Rep] at h ⊢
    obtain ⟨vs, rfl, h⟩ := h
    rw [RepL.shut_id hn cs _ h]
  | .tup ds, v, h => by
    simp only [D.shut, Rep] at h ⊢
    obtain ⟨vs, rfl, h⟩ := h
    rw [RepL.shut_id hn ds _ h]
  | .sl o es ds, v, h => by
    simp only [D.shut, Rep] at h ⊢
    obtain ⟨a, cap, rfl, hc, ho, hr⟩ := h
    have h1 : D.shutL n ds = ds := by
      by_cases hne : ds = []
      · subst hne; simp [D.shutL]
      · obtain ⟨b, off, rfl, hrow⟩ := hr hne
        exact RepRow.shut_id hn b es ds off hrow
    rw [h1]
    cases o with
    | sh => rfl
    | full => rfl
    | own c s => rw [Own.shut, if_pos (Nat.lt_of_lt_of_le ho.1 hn)]
  | .vsl k off es len, v, h => by
    simp only [D.shut, Rep] at h ⊢
    rw [if_pos (Nat.lt_of_lt_of_le h.1 hn)]
  | .ref k off, v, h => by
    simp only [D.shut, Rep] at h ⊢
    rw [if_pos (Nat.lt_of_lt_of_le h.1 hn)]
  | .peek cs, v, h => by
    simp only [D.shut, Rep] at h ⊢
    obtain ⟨b, off, rfl, h⟩ := h
    rw [RepAt.shut_id hn b cs off h]
  | .fn f first cap, v, h => by
    simp only [D.shut, Rep] at h ⊢
    obtain ⟨fs, cs, rfl, h1, h2⟩ := h
    rw [RepL.shut_id hn first _ h1, RepL.shut_id hn cap _ h2]
  | .iface t d, v, h => by
    simp only [D.shut, Rep] at h ⊢
    obtain ⟨u, rfl, h⟩ := h
    rw [Rep.shut_id hn d u h]
  | .yld m k, v, h => by
    simp only [D.shut, Rep] at h ⊢
    rw [if_pos (Nat.lt_of_lt_of_le h.2.1 hn)]
theorem RepL.shut_id {g : Gh} {w : World} {n : Nat} (hn : g.len ≤ n) : ∀ (ds : List D) (vs : List Value), RepL g w ds vs → D.shutL n ds = ds
  | [], vs, h => by simp [D.shutL]
  | d :: ds, vs, h => by
    simp only [D.shutL, RepL] at h ⊢
    obtain ⟨v, r, rfl, h1, h2⟩ := h
    rw [Rep.shut_id hn d v h1, RepL.shut_id hn ds r h2]
theorem RepAt.shut_id {g : Gh} {w : World} {n : Nat} (hn : g.len ≤ n) : ∀ (b : Nat) (ds : List D) (off : Nat), RepAt g w b ds off → D.shutL n ds = ds
  | b, [], off, h => by simp [D.shutL]
  | b, d :: ds, off, h => by
    simp only [D.shutL, RepAt] at h ⊢
    obtain ⟨⟨v, h1, h2, h3⟩, h4⟩ := h
    rw [Rep.shut_id hn d v h3, RepAt.shut_id hn b ds _ h4]
theorem RepRow.shut_id {g : Gh} {w : World} {n : Nat} (hn : g.len ≤ n) : ∀ (b es : Nat) (ds : List D) (off : Nat), RepRow g w b es ds off → D.shutL n ds = ds
  | b, es, [], off, h => by simp [D.shutL]
  | b, es, d :: ds, off, h => by
    simp only [D.shutL, RepRow] at h ⊢
    obtain ⟨⟨v, h1, h2, h3⟩, h4⟩ := h
    rw [Rep.shut_id hn d v h1, RepRow.shut_id hn b es ds _ h4]
end

/-- the world goes on: nothing stable turns, and no binding is lost but by going on -/
structure Ext (g : Gh) (w : World) (g' : Gh) (w' : World) : Prop where
  base : g'.base = g.base
  below : Below g.base w w'
  stabS : ∀ b off, g.S b off → g'.S b off
  cellS : ∀ b off, g.S b off → w'.cell? ⟨b, off, none⟩ = w.cell? ⟨b, off, none⟩
  len : g.len ≤ g'.len
  bind : ∀ k, k < g.len → BindLe (g.m k) (g'.m k)

theorem Ext.refl (g : Gh) (w : World) : Ext g w g w :=
  ⟨rfl, Below.refl _ _, fun _ _ h => h, fun _ _ _ => rfl, Nat.le_refl _, fun _ _ => BindLe.refl _⟩
theorem Ext.trans {g g1 g2 : Gh} {w w1 w2 : World} (h : Ext g w g1 w1) (k : Ext g1 w1 g2 w2) : Ext g w g2 w2 :=
  ⟨k.base.trans h.base, h.below.trans (h.base ▸ k.below), fun b o hs => k.stabS b o (h.stabS b o hs),
    fun b o hs => (k.cellS b o (h.stabS b o hs)).trans (h.cellS b o hs), Nat.le_trans h.len k.len,
    fun i hi => (h.bind i hi).trans (k.bind i (Nat.lt_of_lt_of_le hi h.len))⟩
theorem Ext.keeps {g g' : Gh} {w w' : World} (h : Ext g w g' w') : Keeps g w g' w' :=
  ⟨fun b o hs => hs.imp (fun hb => h.base ▸ hb) (h.stabS b o), fun b o hs => by
    rcases hs with hb | hs
    · exact h.below.cell (p := ⟨b, o, none⟩) hb
    · exact h.cellS b o hs, fun k h1 _ => .inl (h.bind k h1)⟩

section
variable {g g' : Gh} {w w' : World} (E : Ext g w g' w')
include E
theorem Ext.rep {d : D} {v : Value} (h : Rep g w d v) : Rep g' w' d v := by
  have := Rep.keep E.keeps d v h; rwa [Rep.shut_id E.len d v h] at this
theorem Ext.repL {ds : List D} {vs : List Value} (h : RepL g w ds vs) : RepL g' w' ds vs := by
  have := RepL.keep E.keeps ds vs h; rwa [RepL.shut_id E.len ds vs h] at this
theorem Ext.repAt {b : Nat} {ds : List D} {off : Nat} (h : RepAt g w b ds off) : RepAt g' w' b ds off := by
  have := RepAt.keep E.keeps b ds off h; rwa [RepAt.shut_id E.len b ds off h] at this
theorem Ext.repRow {b es : Nat} {ds : List D} {off : Nat} (h : RepRow g w b es ds off) : RepRow g' w' b es ds off := by
  have := RepRow.keep E.keeps b es ds off h; rwa [RepRow.shut_id E.len b es ds off h] at this
end

def Bind.owns : Bind → Nat → Nat → Prop
  | .var b0 o n x, b, off => b = b0 ∧ o ≤ off ∧ off < o + n + x
  | .tok (some (b0, e, lim)) _, b, off => b = b0 ∧ e ≤ off ∧ off < lim
  | .obj l, b, _ => b = l
  | _, _, _ => False

/-- how a loop's record says where it stands -/
def StOk : RSt → Loop → Prop
  | .ready, r => r.state = .ready ∧ r.pending = none
  | .busy, r => r.state = .busy
  | .ret, r => r.state = .done ∧ r.pending = some .ret
  | .exit id, r => r.state = .done ∧ r.pending = some (.exit id)

def SlotOk (g : Gh) (w : World) : Bind → Slot → Prop
  | .var b o n x, .cells cs => (n = cs.length ∧ ∀ j, n ≤ j → j < n + x → (∃ v, w.cell? ⟨b, o + j, none⟩ = some v) ∧ w.frozen? ⟨b, o + j, none⟩ = false) ∧ ∀ j d, cs[j]? = some d → ∃ v, w.cell? ⟨b, o + j, none⟩ = some v ∧ w.frozen? ⟨b, o + j, none⟩ = false ∧ v.oneCell' = true ∧ Rep g w d v
  | .tok r n, .tok m => n = m ∧ ∀ b e lim, r = some (b, e, lim) → ∀ j, e ≤ j → j < lim → (∃ v, w.cell? ⟨b, j, none⟩ = some v) ∧ w.frozen? ⟨b, j, none⟩ = false
  | .none, .dead => True
  | .wait, .cells cs => ∀ n, D.shutL n cs = cs
  | .obj l, .dfb => w.heap[l]? = some (.deferred (some []))
  | .obj l, .loop f t rf st => ∃ r : Loop, w.heap[l]? = some (.loop r) ∧ r.fn = f ∧ RepL g w t r.tmps.toList ∧ (∃ g0, rf = .rangeFunc g0 r.params r.assign r.body) ∧ StOk st r
  | _, _ => False

structure Inv (g : Gh) (A : St) (w : World) : Prop where
  len : g.len = A.length
  base : g.base ≤ w.heap.size
  slot : ∀ (k : Nat) s, A[k]? = some s → SlotOk g w (g.m k) s
  sep : ∀ k k' b off, k < g.len → k' < g.len → (g.m k).owns b off → (g.m k').owns b off → k = k'
  own : ∀ k b off, k < g.len → (g.m k).owns b off → ¬ g.stab b off
  old : ∀ b off, g.S b off → b < w.heap.size

/-! lists -/
theorem RepL.length {g : Gh} {w : World} : ∀ {ds : List D} {vs : List Value}, RepL g w ds vs → ds.length = vs.length
  | [], vs, h => by simp only [RepL] at h; subst h; rfl
  | d :: ds, vs, h => by
    simp only [RepL] at h
    obtain ⟨v, r, rfl, _, h2⟩ := h
    simp [RepL.length h2]
theorem RepL.get {g : Gh} {w : World} : ∀ {ds : List D} {vs : List Value}, RepL g w ds vs → ∀ {i : Nat} {d : D}, ds[i]? = some d → ∃ v, vs[i]? = some v ∧ Rep g w d v
  | [], vs, h, i, d, hi => by simp at hi
  | d0 :: ds, vs, h, i, d, hi => by
    simp only [RepL] at h
    obtain ⟨v, r, rfl, h1, h2⟩ := h
    cases i with
    | zero => simp at hi; subst hi; exact ⟨v, rfl, h1⟩
    | succ i => simpa using RepL.get h2 (i := i) (by simpa using hi)
theorem RepL.of_get {g : Gh} {w : World} : ∀ {ds : List D} {vs : List Value}, ds.length = vs.length → (∀ (i : Nat) d v, ds[i]? = some d → vs[i]? = some v → Rep g w d v) → RepL g w ds vs
  | [], [], _, _ => by simp [RepL]
  | [], _ :: _, h, _ => by simp at h
  | _ :: _, [], h, _ => by simp at h
  | d :: ds, v :: vs, h, H => by
    simp only [RepL]
    exact ⟨v, vs, rfl, H 0 d v rfl rfl, RepL.of_get (by simpa using h) fun i d v h1 h2 => H (i + 1) d v (by simpa using h1) (by simpa using h2)⟩
theorem RepL.append {g : Gh} {w : World} : ∀ {ds : List D} {vs : List Value} {es : List D} {us : List Value}, RepL g w ds vs → RepL g w es us → RepL g w (ds ++ es) (vs ++ us)
  | [], vs, es, us, h, k => by simp only [RepL] at h; subst h; simpa using k
  | d :: ds, vs, es, us, h, k => by
    simp only [RepL] at h
    obtain ⟨v, r, rfl, h1, h2⟩ := h
    simp only [List.cons_append, RepL]
    exact ⟨v, r ++ us, rfl, h1, h2.append k⟩
theorem RepL.set {g : Gh} {w : World} {ds : List D} {vs : List Value} (h : RepL g w ds vs) {d : D} {v : Value} (hv : Rep g w d v) (i : Nat) : RepL g w (ds.set i d) (vs.set i v) := by
  refine RepL.of_get (by simp [h.length]) fun j d' v' h1 h2 => ?_
  rw [List.getElem?_set] at h1 h2
  split at h1
  · rename_i e
    subst e
    rw [if_pos rfl] at h2
    split at h1
    · rw [if_pos (by rw [← h.length]; assumption)] at h2
      cases h1; cases h2; exact hv
    · cases h1
  · rename_i e
    rw [if_neg e] at h2
    obtain ⟨u, hu, hr⟩ := h.get h1
    rw [hu] at h2; cases h2; exact hr
theorem RepL.take {g : Gh} {w : World} {ds : List D} {vs : List Value} (h : RepL g w ds vs) (n : Nat) : RepL g w (ds.take n) (vs.take n) := by
  refine RepL.of_get (by simp [h.length]) fun j d' v' h1 h2 => ?_
  rw [List.getElem?_take] at h1 h2
  split at h1
  · rename_i e
    rw [if_pos e] at h2
    obtain ⟨u, hu, hr⟩ := h.get h1
    rw [hu] at h2; cases h2; exact hr
  · cases h1
theorem RepL.drop {g : Gh} {w : World} {ds : List D} {vs : List Value} (h : RepL g w ds vs) (n : Nat) : RepL g w (ds.drop n) (vs.drop n) := by
  refine RepL.of_get (by simp [h.length]) fun j d' v' h1 h2 => ?_
  rw [List.getElem?_drop] at h1 h2
  obtain ⟨u, hu, hr⟩ := h.get h1
  rw [hu] at h2; cases h2; exact hr
theorem RepL.map {g : Gh} {w : World} {α : Type} (f : α → D) (k : α → Value) : ∀ (l : List α), (∀ x ∈ l, Rep g w (f x) (k x)) → RepL g w (l.map f) (l.map k)
  | [], _ => by simp [RepL]
  | x :: l, h => by
    simp only [List.map_cons, RepL]
    exact ⟨_, _, rfl, h x (by simp), RepL.map f k l fun y hy => h y (by simp [hy])⟩

/-! rows -/
theorem RepAt.get {g : Gh} {w : World} {b : Nat} : ∀ {ds : List D} {off : Nat}, RepAt g w b ds off → ∀ {i : Nat} {d : D}, ds[i]? = some d →
    ∃ v, g.stab b (off + i) ∧ w.cell? ⟨b, off + i, none⟩ = some v ∧ Rep g w d v
  | [], off, h, i, d, hi => by simp at hi
  | d0 :: ds, off, h, i, d, hi => by
    simp only [RepAt] at h
    obtain ⟨⟨v, h1, h2, h3⟩, h4⟩ := h
    cases i with
    | zero => simp at hi; subst hi; exact ⟨v, h1, h2, h3⟩
    | succ i =>
      obtain ⟨u, k1, k2, k3⟩ := RepAt.get h4 (i := i) (by simpa using hi)
      have e : off + 1 + i = off + (i + 1) := by omega
      rw [e] at k1 k2
      exact ⟨u, k1, k2, k3⟩
theorem RepAt.of_get {g : Gh} {w : World} {b : Nat} : ∀ {ds : List D} {off : Nat}, (∀ (i : Nat) d, ds[i]? = some d →
    ∃ v, g.stab b (off + i) ∧ w.cell? ⟨b, off + i, none⟩ = some v ∧ Rep g w d v) → RepAt g w b ds off
  | [], off, h => by simp [RepAt]
  | d :: ds, off, h => by
    simp only [RepAt]
    refine ⟨by simpa using h 0 d rfl, RepAt.of_get fun i d' hi => ?_⟩
    have e : off + 1 + i = off + (i + 1) := by omega
    rw [e]
    exact h (i + 1) d' (by simpa using hi)
theorem RepAt.drop {g : Gh} {w : World} {b : Nat} {ds : List D} {off : Nat} (h : RepAt g w b ds off) (n : Nat) : RepAt g w b (ds.drop n) (off + n) :=
  RepAt.of_get fun i d hi => by
    rw [List.getElem?_drop] at hi
    have := h.get hi
    rwa [Nat.add_assoc]
theorem RepRow.get {g : Gh} {w : World} {b es : Nat} : ∀ {ds : List D} {off : Nat}, RepRow g w b es ds off → ∀ {i : Nat} {d : D}, ds[i]? = some d →
    ∃ v, Rep g w d v ∧ VC es v ∧ ∀ j, j < es → g.stab b (off + i * es + j) ∧ w.cell? ⟨b, off + i * es + j, none⟩ = v.cells[j]?
  | [], off, h, i, d, hi => by simp at hi
  | d0 :: ds, off, h, i, d, hi => by
    simp only [RepRow] at h
    obtain ⟨h1, h4⟩ := h
    cases i with
    | zero => simp at hi; subst hi; simpa using h1
    | succ i =>
      have := RepRow.get h4 (i := i) (by simpa using hi)
      have e : off + es + i * es = off + (i + 1) * es := by rw [Nat.add_mul]; omega
      rwa [e] at this
theorem RepRow.of_get {g : Gh} {w : World} {b es : Nat} : ∀ {ds : List D} {off : Nat}, (∀ (i : Nat) d, ds[i]? = some d →
    ∃ v, Rep g w d v ∧ VC es v ∧ ∀ j, j < es → g.stab b (off + i * es + j) ∧ w.cell? ⟨b, off + i * es + j, none⟩ = v.cells[j]?) → RepRow g w b es ds off
  | [], off, h => by simp [RepRow]
  | d :: ds, off, h => by
    simp only [RepRow]
    refine ⟨by simpa using h 0 d rfl, RepRow.of_get fun i d' hi => ?_⟩
    have e : off + es + i * es = off + (i + 1) * es := by rw [Nat.add_mul]; omega
    rw [e]
    exact h (i + 1) d' (by simpa using hi)

/-! constants and operands -/
theorem rep_ofCell (g : Gh) (w : World) (v : Value) : Rep g w (ofCell v) v := by
  unfold ofCell
  split <;> try simp [Rep, isAtom]
  · simp [OwnOk]
  · rename_i f first cap
    by_cases h : (first.isEmpty && cap.isEmpty) = true
    · simp at h
      obtain ⟨rfl, rfl⟩ := h
      simp [Rep, RepL]
    · simp only [Array.isEmpty_iff, Bool.and_eq_true] at h
      rw [if_neg (by simpa using h)]
      simp [Rep]
theorem rep_ofConst (g : Gh) (w : World) (v : Value) : Rep g w (ofConst v) v := by
  unfold ofConst
  split
  · rename_i cs
    simp only [Rep]
    refine ⟨cs, rfl, ?_⟩
    have := RepL.map (g := g) (w := w) ofCell id cs.toList fun x _ => rep_ofCell g w x
    simpa using this
  · rename_i vs
    split
    · rename_i h
      simp at h
      subst h
      simp [Rep, RepL]
    · simp [Rep]
  · exact rep_ofCell g w v
theorem rep_undef (g : Gh) (w : World) : Rep g w undefD undef := by simp [undefD, undef, Rep, RepL]
theorem rep_eval {g : Gh} {w : World} {e : List D} {a : Act} (h : RepL g w e a.tmps.toList) (x : Operand) : Rep g w (evalO e x) (a.eval x) := by
  cases x with
  | tmp t =>
    simp only [evalO, Act.eval]
    cases ht : e[t]? with
    | some d =>
      obtain ⟨v, hv, hr⟩ := h.get ht
      have : a.tmps[t]? = some v := by simpa using hv
      simpa [List.getD, ht, Array.getD_eq_getD_getElem?, this] using hr
    | none =>
      have hl : a.tmps.toList.length ≤ t := by rw [← h.length]; simpa using ht
      have : a.tmps[t]? = none := by simp at hl; simp [hl]
      simp [List.getD, ht, Array.getD_eq_getD_getElem?, this]
      exact rep_undef g w
  | const v => exact rep_ofConst g w v
  | global n => simp [evalO, Rep]
  | func f => simp [evalO, Act.eval, Rep, RepL]

theorem cell?_eq {d x : D} (h : d.cell? = some x) : x = d := by cases d <;> simp_all [D.cell?]
theorem cell?_rep {g : Gh} {w : World} {d x : D} {v : Value} (h : d.cell? = some x) (hr : Rep g w d v) : v.cells = #[v] ∧ v.oneCell' = true := by
  cases d <;> simp only [D.cell?, reduceCtorEq] at h <;> simp only [Rep] at hr
  case bool => subst hr; exact ⟨rfl, rfl⟩
  case int => subst hr; exact ⟨rfl, rfl⟩
  case str => obtain ⟨x, rfl, _⟩ := hr; exact ⟨rfl, rfl⟩
  case val u =>
    obtain ⟨rfl, ha⟩ := hr
    cases v <;> simp [isAtom] at ha <;> exact ⟨rfl, rfl⟩
  case sl => obtain ⟨a, c, rfl, _⟩ := hr; exact ⟨rfl, rfl⟩
  case vsl => obtain ⟨_, a, c, rfl, _⟩ := hr; exact ⟨rfl, rfl⟩
  case ref => obtain ⟨_, a, rfl, _⟩ := hr; exact ⟨rfl, rfl⟩
  case peek => obtain ⟨b, o, rfl, _⟩ := hr; exact ⟨rfl, rfl⟩
  case fn => obtain ⟨a, c, rfl, _⟩ := hr; exact ⟨rfl, rfl⟩
  case iface => obtain ⟨u, rfl, _⟩ := hr; exact ⟨rfl, rfl⟩
  case yld => obtain ⟨_, _, u, rfl, _⟩ := hr; exact ⟨rfl, rfl⟩
theorem oneCell_of {g : Gh} {w : World} {cs : List D} {vs : List Value} (h : allCells cs = true) (hr : RepL g w cs vs) : ∀ v ∈ vs, v.oneCell' = true := by
  intro v hv
  obtain ⟨i, hi⟩ := List.getElem?_of_mem hv
  have hlt : i < cs.length := by rw [hr.length]; exact (List.getElem?_eq_some_iff.1 hi).1
  obtain ⟨u, hu, hur⟩ := hr.get (List.getElem?_eq_getElem hlt)
  rw [hi] at hu
  cases hu
  have := List.all_eq_true.1 h cs[i] (List.getElem_mem hlt)
  obtain ⟨x, hx⟩ := Option.isSome_iff_exists.1 this
  exact (cell?_rep hx hur).2
/-- the cells of a datum stand for the cells of its value -/
theorem cellsT_rep' {g : Gh} {w : World} {ag : Bool} {d : D} {cs : List D} {v : Value} (h : d.cellsT ag = some cs) (hr : Rep g w d v) : RepL g w cs v.cells.toList ∧ allCells cs = true := by
  unfold D.cellsT at h
  cases ag with
  | true =>
    simp only [cond_true, Option.bind_eq_some_iff] at h
    obtain ⟨cs', h1, h⟩ := h
    split at h
    · rename_i ha
      cases h
      cases d <;> simp only [D.agg?, reduceCtorEq, Option.some.injEq] at h1
      subst h1
      simp only [Rep] at hr
      obtain ⟨vs, rfl, hr⟩ := hr
      exact ⟨hr, ha⟩
    · cases h
  | false =>
    simp only [cond_false, Option.map_eq_some_iff] at h
    obtain ⟨x, hx, rfl⟩ := h
    obtain ⟨h1, _⟩ := cell?_rep hx hr
    have := cell?_eq hx
    subst this
    rw [h1]
    simp only [RepL]
    exact ⟨⟨v, [], rfl, hr, rfl⟩, by simp [allCells, hx]⟩
theorem cellsT_rep {g : Gh} {w : World} {ag : Bool} {d : D} {cs : List D} {v : Value} (h : d.cellsT ag = some cs) (hr : Rep g w d v) : RepL g w cs v.cells.toList := (cellsT_rep' h hr).1
end Go.Vm

/- The steps by which the invariant between the abstract store and memory goes on. -/
namespace Go.Vm
open Go.RowKit
set_option linter.unusedVariables false

def upd {α : Type} (f : Nat → α) (k : Nat) (x : α) : Nat → α := fun i => if i = k then x else f i
@[simp] theorem upd_same {α : Type} (f : Nat → α) (k : Nat) (x : α) : upd f k x k = x := by simp [upd]
theorem upd_ne {α : Type} (f : Nat → α) {k i : Nat} (x : α) (h : i ≠ k) : upd f k x i = f i := by simp [upd, h]

theorem Inv.lt {g : Gh} {A : St} {w : World} (I : Inv g A w) {k b off : Nat} (hk : k < g.len) (h : (g.m k).owns b off) : b < w.heap.size := by
  have hk' : k < A.length := I.len ▸ hk
  have hs := I.slot k A[k] (by simp [hk'])
  cases hm : g.m k with
  | none => rw [hm] at h; exact h.elim
  | wait => rw [hm] at h; exact h.elim
  | var b0 o n x =>
    rw [hm] at h hs
    obtain ⟨rfl, h1, h2⟩ := h
    cases hA : A[k] with
    | cells cs =>
      rw [hA] at hs
      obtain ⟨⟨rfl, hx⟩, hs⟩ := hs
      have e : o + (off - o) = off := by omega
      rcases Nat.lt_or_ge (off - o) cs.length with hl | hl
      · obtain ⟨v, hv, _⟩ := hs (off - o) cs[off - o] (by rw [List.getElem?_eq_getElem (by omega)])
        rw [e] at hv
        exact World.block_lt_of_cell? w _ hv
      · obtain ⟨⟨v, hv⟩, _⟩ := hx (off - o) hl (by omega)
        rw [e] at hv
        exact World.block_lt_of_cell? w _ hv
    | tok n => rw [hA] at hs; exact hs.elim
    | dead => rw [hA] at hs; exact hs.elim
    | loop f t rf st => rw [hA] at hs; exact hs.elim
    | dfb => rw [hA] at hs; exact hs.elim
  | obj l =>
    rw [hm] at h hs
    have h' : b = l := h
    subst h'
    cases hA : A[k] with
    | cells cs => rw [hA] at hs; exact hs.elim
    | tok n => rw [hA] at hs; exact hs.elim
    | dead => rw [hA] at hs; exact hs.elim
    | loop f t rf st => rw [hA] at hs; obtain ⟨r, hr, _⟩ := hs; exact (Array.getElem?_eq_some_iff.1 hr).1
    | dfb => rw [hA] at hs; exact (Array.getElem?_eq_some_iff.1 hs).1
  | tok r n =>
    rw [hm] at h hs
    cases r with
    | none => exact h.elim
    | some x =>
      obtain ⟨b0, e, lim⟩ := x
      obtain ⟨rfl, h1, h2⟩ := h
      cases hA : A[k] with
      | cells cs => rw [hA] at hs; exact hs.elim
      | dead => rw [hA] at hs; exact hs.elim
      | loop f t rf st => rw [hA] at hs; exact hs.elim
      | dfb => rw [hA] at hs; exact hs.elim
      | tok m =>
        rw [hA] at hs
        obtain ⟨⟨v, hv⟩, _⟩ := hs.2 b e lim rfl off h1 h2
        exact World.block_lt_of_cell? w _ hv
theorem Inv.stab_lt {g : Gh} {A : St} {w : World} (I : Inv g A w) {b off : Nat} (h : g.stab b off) : b < w.heap.size :=
  h.elim (fun h => Nat.lt_of_lt_of_le h I.base) (I.old b off)

theorem SlotOk.keep {g g' : Gh} {w w' : World} (E : Ext g w g' w') {bd : Bind} {s : Slot} (h : SlotOk g w bd s)
    (hc : ∀ b off, bd.owns b off → w'.cell? ⟨b, off, none⟩ = w.cell? ⟨b, off, none⟩ ∧ w'.frozen? ⟨b, off, none⟩ = w.frozen? ⟨b, off, none⟩)
    (ho : ∀ l, bd = .obj l → w'.heap[l]? = w.heap[l]?) : SlotOk g' w' bd s := by
  cases bd with
  | obj l =>
    cases s with
    | dfb => exact (ho l rfl).trans h
    | loop f t rf st =>
      obtain ⟨r, h1, h2, h3, h4⟩ := h
      exact ⟨r, (ho l rfl).trans h1, h2, E.repL h3, h4⟩
    | _ => exact h.elim
  | none => cases s <;> exact h
  | wait => cases s <;> exact h
  | var b o n x =>
    cases s with
    | tok n => exact h.elim
    | dead => exact h.elim
    | loop f t rf st => exact h.elim
    | dfb => exact h.elim
    | cells cs =>
      obtain ⟨⟨rfl, hx⟩, h⟩ := h
      refine ⟨⟨rfl, fun j j1 j2 => ?_⟩, fun j d hj => ?_⟩
      · obtain ⟨⟨v, hv⟩, hf⟩ := hx j j1 j2
        obtain ⟨k1, k2⟩ := hc b (o + j) ⟨rfl, by omega, by omega⟩
        exact ⟨⟨v, k1.trans hv⟩, k2.trans hf⟩
      obtain ⟨v, h1, h2, h3, h4⟩ := h j d hj
      have hlt : j < cs.length := (List.getElem?_eq_some_iff.1 hj).1
      obtain ⟨k1, k2⟩ := hc b (o + j) ⟨rfl, by omega, by omega⟩
      exact ⟨v, k1.trans h1, k2.trans h2, h3, E.rep h4⟩
  | tok r n =>
    cases s with
    | cells cs => exact h.elim
    | dead => exact h.elim
    | loop f t rf st => exact h.elim
    | dfb => exact h.elim
    | tok m =>
      refine ⟨h.1, fun b e lim hr j h1 h2 => ?_⟩
      subst hr
      obtain ⟨⟨v, hv⟩, hf⟩ := h.2 b e lim rfl j h1 h2
      obtain ⟨k1, k2⟩ := hc b j ⟨rfl, h1, h2⟩
      exact ⟨⟨v, k1.trans hv⟩, k2.trans hf⟩

/-- the world turns only where slot k owns -/
theorem Inv.write {g : Gh} {A : St} {w w' : World} (I : Inv g A w) (k : Nat) (hk : k < g.len)
    (os : w'.os = w.os) (tape : w'.tape = w.tape) (output : w'.output = w.output) (size : w.heap.size ≤ w'.heap.size)
    (blk : ∀ b, b < w.heap.size → (∀ off, ¬ (g.m k).owns b off) → w'.heap[b]? = w.heap[b]?)
    (cell : ∀ b off, b < w.heap.size → ¬ (g.m k).owns b off → w'.cell? ⟨b, off, none⟩ = w.cell? ⟨b, off, none⟩ ∧ w'.frozen? ⟨b, off, none⟩ = w.frozen? ⟨b, off, none⟩) :
    Ext g w g w' ∧ ∀ s, SlotOk g w' (g.m k) s → Inv g (A.set k s) w' := by
  have E : Ext g w g w' := by
    refine ⟨rfl, ⟨os, tape, output, size, fun b hb => ?_⟩, fun _ _ h => h, fun b off hs => ?_, Nat.le_refl _, fun _ _ => BindLe.refl _⟩
    · exact blk b (Nat.lt_of_lt_of_le hb I.base) fun off ho => I.own k b off hk ho (.inl hb)
    · exact (cell b off (I.old b off hs) fun ho => I.own k b off hk ho (.inr hs)).1
  refine ⟨E, fun s hs => ⟨by simpa using I.len, Nat.le_trans I.base size, fun j s' hj => ?_, I.sep, I.own, fun b off h => Nat.lt_of_lt_of_le (I.old b off h) size⟩⟩
  rw [List.getElem?_set] at hj
  split at hj
  · rename_i e
    subst e
    split at hj
    · cases hj; exact hs
    · cases hj
  · rename_i hne
    have hj' : j < g.len := I.len ▸ (List.getElem?_eq_some_iff.1 hj).1
    refine (I.slot j s' hj).keep E (fun b off ho => cell b off (I.lt hj' ho) fun ho' => hne (I.sep k j b off hk hj' ho' ho)) fun l hl => ?_
    exact blk l (I.lt hj' (off := 0) (by rw [hl]; rfl)) fun off ho' => hne (I.sep k j l off hk hj' ho' (by rw [hl]; rfl))

/-- a new slot's binding -/
theorem Inv.bind_new {g : Gh} {A : St} {w : World} (I : Inv g A w) (bd : Bind) (s : Slot) (hs : SlotOk g w bd s)
    (hfree : ∀ b off, bd.owns b off → ¬ g.stab b off ∧ ∀ k, k < g.len → ¬ (g.m k).owns b off) :
    let g' : Gh := { g with len := g.len + 1, m := upd g.m g.len bd }
    Ext g w g' w ∧ Inv g' (A ++ [s]) w := by
  intro g'
  have hm : ∀ k, k < g.len → g'.m k = g.m k := fun k hk => upd_ne _ _ (by omega)
  have E : Ext g w g' w := ⟨rfl, Below.refl _ _, fun _ _ h => h, fun _ _ _ => rfl, Nat.le_succ _, fun k hk => by rw [hm k hk]; exact BindLe.refl _⟩
  have hown : ∀ k b off, k < g.len + 1 → (g'.m k).owns b off → (k < g.len ∧ (g.m k).owns b off) ∨ (k = g.len ∧ bd.owns b off) := by
    intro k b off hk ho
    by_cases e : k = g.len
    · subst e; exact .inr ⟨rfl, by simpa [g'] using ho⟩
    · have : k < g.len := by omega
      exact .inl ⟨this, hm k this ▸ ho⟩
  refine ⟨E, ⟨by simp [g', I.len], I.base, fun k s' hk => ?_, fun k k' b off hk hk' h1 h2 => ?_, fun k b off hk ho => ?_, I.old⟩⟩
  · rw [List.getElem?_append] at hk
    split at hk
    · rename_i h
      have h' : k < g.len := I.len ▸ h
      rw [hm k h']
      exact (I.slot k s' hk).keep E (fun _ _ _ => ⟨rfl, rfl⟩) fun _ _ => rfl
    · rename_i h
      have : k = g.len := by
        have := (List.getElem?_eq_some_iff.1 hk).1
        simp at this
        have := I.len
        omega
      subst this
      rw [I.len] at hk
      simp at hk
      subst hk
      simp only [g', upd_same]
      exact hs.keep E (fun _ _ _ => ⟨rfl, rfl⟩) fun _ _ => rfl
  · rcases hown k b off hk h1 with ⟨a1, a2⟩ | ⟨a1, a2⟩ <;> rcases hown k' b off hk' h2 with ⟨c1, c2⟩ | ⟨c1, c2⟩
    · exact I.sep k k' b off a1 c1 a2 c2
    · exact ((hfree b off c2).2 k a1 a2).elim
    · exact ((hfree b off a2).2 k' c1 c2).elim
    · omega
  · rcases hown k b off hk ho with ⟨a1, a2⟩ | ⟨a1, a2⟩
    · exact I.own k b off a1 a2
    · exact (hfree b off a2).1

/-- a slot's binding goes on -/
theorem Inv.bind_set {g : Gh} {A : St} {w : World} (I : Inv g A w) (k : Nat) (hk : k < g.len) (bd : Bind) (s : Slot) (hs : SlotOk g w bd s) (le : BindLe (g.m k) bd)
    (hfree : ∀ b off, bd.owns b off → ¬ g.stab b off ∧ ∀ j, j < g.len → j ≠ k → ¬ (g.m j).owns b off) :
    let g' : Gh := { g with m := upd g.m k bd }
    Ext g w g' w ∧ Inv g' (A.set k s) w := by
  intro g'
  have hm : ∀ j, j ≠ k → g'.m j = g.m j := fun j hj => upd_ne _ _ hj
  have E : Ext g w g' w := ⟨rfl, Below.refl _ _, fun _ _ h => h, fun _ _ _ => rfl, Nat.le_refl _, fun j hj => by
    by_cases e : j = k
    · subst e; simpa [g'] using le
    · rw [hm j e]; exact BindLe.refl _⟩
  have hown : ∀ j b off, j < g.len → (g'.m j).owns b off → (j ≠ k ∧ (g.m j).owns b off) ∨ (j = k ∧ bd.owns b off) := by
    intro j b off hj ho
    by_cases e : j = k
    · subst e; exact .inr ⟨rfl, by simpa [g'] using ho⟩
    · exact .inl ⟨e, hm j e ▸ ho⟩
  refine ⟨E, ⟨by simpa [g'] using I.len, I.base, fun j s' hj => ?_, fun j j' b off hj hj' h1 h2 => ?_, fun j b off hj ho => ?_, I.old⟩⟩
  · rw [List.getElem?_set] at hj
    split at hj
    · rename_i e
      subst e
      split at hj
      · cases hj
        simp only [g', upd_same]
        exact hs.keep E (fun _ _ _ => ⟨rfl, rfl⟩) fun _ _ => rfl
      · cases hj
    · rename_i e
      rw [hm j (fun h => e h.symm)]
      exact (I.slot j s' hj).keep E (fun _ _ _ => ⟨rfl, rfl⟩) fun _ _ => rfl
  · rcases hown j b off hj h1 with ⟨a1, a2⟩ | ⟨a1, a2⟩ <;> rcases hown j' b off hj' h2 with ⟨c1, c2⟩ | ⟨c1, c2⟩
    · exact I.sep j j' b off hj hj' a2 c2
    · exact ((hfree b off c2).2 j hj a1 a2).elim
    · exact ((hfree b off a2).2 j' hj' c1 c2).elim
    · omega
  · rcases hown j b off hj ho with ⟨a1, a2⟩ | ⟨a1, a2⟩
    · exact I.own j b off hj a2
    · exact (hfree b off a2).1

/-- cells that nobody owns become stable -/
theorem Inv.stab_add {g : Gh} {A : St} {w : World} (I : Inv g A w) (T : Nat → Nat → Prop) (h : ∀ b off, T b off → b < w.heap.size ∧ ∀ k, k < g.len → ¬ (g.m k).owns b off) :
    let g' : Gh := { g with S := fun b off => g.S b off ∨ T b off }
    Ext g w g' w ∧ Inv g' A w := by
  intro g'
  have E : Ext g w g' w := ⟨rfl, Below.refl _ _, fun _ _ h => .inl h, fun _ _ _ => rfl, Nat.le_refl _, fun j hj => BindLe.refl _⟩
  refine ⟨E, ⟨I.len, I.base, fun j s' hj => (I.slot j s' hj).keep E (fun _ _ _ => ⟨rfl, rfl⟩) fun _ _ => rfl, I.sep, fun k b off hk ho hst => ?_, fun b off hs => ?_⟩⟩
  · rcases hst with hb | hs | ht
    · exact I.own k b off hk ho (.inl hb)
    · exact I.own k b off hk ho (.inr hs)
    · exact (h b off ht).2 k hk ho
  · exact hs.elim (I.old b off) fun ht => (h b off ht).1

/-- a draw -/
theorem Inv.drew {g : Gh} {A : St} {w : World} (I : Inv g A w) : Ext g w g w.drew ∧ Inv g A w.drew := by
  have E : Ext g w g w.drew := ⟨rfl, (Below.refl _ _).drew, fun _ _ h => h, fun _ _ _ => rfl, Nat.le_refl _, fun _ _ => BindLe.refl _⟩
  exact ⟨E, ⟨I.len, I.base, fun j s' hj => (I.slot j s' hj).keep E (fun _ _ _ => ⟨rfl, rfl⟩) fun _ _ => rfl, I.sep, I.own, I.old⟩⟩

/-- a new block of cells: as yet nobody's -/
theorem Inv.alloc {g : Gh} {A : St} {w : World} (I : Inv g A w) (c : Array Value) (elem : TypeId) (fz : Nat × Nat) :
    Ext g w g (w.alloc (.cells c elem fz)) ∧ Inv g A (w.alloc (.cells c elem fz)) ∧
    (∀ off, ¬ g.stab w.heap.size off) ∧ (∀ k off, k < g.len → ¬ (g.m k).owns w.heap.size off) := by
  have E : Ext g w g (w.alloc (.cells c elem fz)) := by
    refine ⟨rfl, (Below.refl _ _).alloc I.base _, fun _ _ h => h, fun b off hs => ?_, Nat.le_refl _, fun _ _ => BindLe.refl _⟩
    exact World.cell?_alloc_lt w _ ⟨b, off, none⟩ (I.old b off hs)
  refine ⟨E, ⟨I.len, by simpa using Nat.le_succ_of_le I.base, fun j s' hj => (I.slot j s' hj).keep E (fun b off ho => ?_) fun l hl => ?_, I.sep, I.own, fun b off hs => by simpa using Nat.lt_succ_of_lt (I.old b off hs)⟩, fun off h => ?_, fun k off hk h => ?_⟩
  · have hb : b < w.heap.size := I.lt (I.len ▸ (List.getElem?_eq_some_iff.1 hj).1) ho
    exact ⟨World.cell?_alloc_lt w _ ⟨b, off, none⟩ hb, World.frozen?_alloc_old w _ ⟨b, off, none⟩ (Nat.ne_of_lt hb)⟩
  · have hb : l < w.heap.size := I.lt (off := 0) (I.len ▸ (List.getElem?_eq_some_iff.1 hj).1) (by rw [hl]; rfl)
    exact Below.heap_alloc w _ l hb
  · exact absurd (I.stab_lt h) (Nat.lt_irrefl _)
  · exact absurd (I.lt hk h) (Nat.lt_irrefl _)

/-- a new block, its first n cells stable -/
theorem Inv.alloc_stab {g : Gh} {A : St} {w : World} (I : Inv g A w) (c : Array Value) (elem : TypeId) (fz : Nat × Nat) (n : Nat) :
    ∃ g', Ext g w g' (w.alloc (.cells c elem fz)) ∧ Inv g' A (w.alloc (.cells c elem fz)) ∧ (∀ off, off < n → g'.stab w.heap.size off) ∧ (∀ off, g'.stab w.heap.size off → off < n) ∧ g'.m = g.m ∧ g'.len = g.len := by
  obtain ⟨E1, I1, h1, h2⟩ := I.alloc c elem fz
  obtain ⟨E2, I2⟩ := I1.stab_add (fun b off => b = w.heap.size ∧ off < n) fun b off ⟨hb, ho⟩ => by
    subst hb; exact ⟨by simp, fun k hk => h2 k off hk⟩
  exact ⟨_, E1.trans E2, I2, fun off ho => .inr (.inr ⟨rfl, ho⟩), fun off h => by
    rcases h with h | h | h
    · exact (h1 off (.inl h)).elim
    · exact (h1 off (.inr h)).elim
    · exact h.2, rfl, rfl⟩

/-- a new variable, and what it is bound to -/
theorem Inv.alloc_varM {g : Gh} {A : St} {w : World} (I : Inv g A w) (c : Array Value) (elem : TypeId) (cs : List D) (hr : RepL g w cs c.toList) (h1 : ∀ v ∈ c, v.oneCell' = true) :
    ∃ g', Ext g w g' (w.alloc (.cells c elem)) ∧ Inv g' (A ++ [.cells cs]) (w.alloc (.cells c elem)) ∧ Rep g' (w.alloc (.cells c elem)) (.ref A.length 0) (.pointer (some ⟨w.heap.size, 0, none⟩)) ∧ g'.m A.length = .var w.heap.size 0 cs.length 0 := by
  obtain ⟨E1, I1, ha, hb⟩ := I.alloc c elem (0, 0)
  obtain ⟨E2, I2⟩ := I1.bind_new (.var w.heap.size 0 cs.length 0) (.cells cs) ⟨⟨rfl, fun j h1 h2 => absurd h1 (by omega)⟩, fun j d hj => by
    obtain ⟨v, hv, hrep⟩ := hr.get hj
    have hv' : c[j]? = some v := by simpa using hv
    refine ⟨v, by simpa using hv', by simp, h1 v (Array.mem_of_getElem? hv'), E1.rep hrep⟩⟩ fun b off ho => by
    obtain ⟨rfl, _, _⟩ := ho
    exact ⟨ha off, fun k hk => hb k off hk⟩
  refine ⟨_, E1.trans E2, I2, ?_, by rw [← I.len]; simp⟩
  simp only [Rep]
  refine ⟨by simp [I.len], _, rfl, by rw [← I.len]; simp, fun b o n x hm => ?_⟩
  rw [← I.len] at hm
  simp at hm
  obtain ⟨rfl, rfl, rfl, rfl⟩ := hm
  rfl

/-- a new variable -/
theorem Inv.alloc_var {g : Gh} {A : St} {w : World} (I : Inv g A w) (c : Array Value) (elem : TypeId) (cs : List D) (hr : RepL g w cs c.toList) (h1 : ∀ v ∈ c, v.oneCell' = true) :
    ∃ g', Ext g w g' (w.alloc (.cells c elem)) ∧ Inv g' (A ++ [.cells cs]) (w.alloc (.cells c elem)) ∧ Rep g' (w.alloc (.cells c elem)) (.ref A.length 0) (.pointer (some ⟨w.heap.size, 0, none⟩)) := by
  obtain ⟨g', h1, h2, h3, _⟩ := I.alloc_varM c elem cs hr h1
  exact ⟨g', h1, h2, h3⟩

theorem SlotOk.shut {g g' : Gh} {w : World} (K : Keeps g w g' w) {bd : Bind} {s : Slot} (h : SlotOk g w bd s) : SlotOk g' w bd (s.shut g'.len) := by
  cases bd with
  | none => cases s <;> first | exact h | exact h.elim
  | wait =>
    cases s <;> first | exact h.elim | skip
    rename_i cs
    have h : ∀ n, D.shutL n cs = cs := h
    show ∀ n, D.shutL n (D.shutL g'.len cs) = D.shutL g'.len cs
    intro n
    rw [h, h]
  | var b o n x =>
    cases s <;> first | exact h.elim | skip
    obtain ⟨⟨h0, hx⟩, h⟩ := h
    refine ⟨⟨by simp [h0], hx⟩, fun j d hj => ?_⟩
    rw [shutL_eq, List.getElem?_map] at hj
    simp only [Option.map_eq_some_iff] at hj
    obtain ⟨d0, hj, rfl⟩ := hj
    obtain ⟨v, h1, h2, h3, h4⟩ := h j d0 hj
    exact ⟨v, h1, h2, h3, Rep.keep K d0 v h4⟩
  | tok r n => cases s <;> first | exact h.elim | exact h
  | obj l =>
    cases s <;> first | exact h.elim | skip
    · obtain ⟨r, h1, h2, h3, h4⟩ := h
      exact ⟨r, h1, h2, RepL.keep K _ _ h3, h4⟩
    · exact h
theorem SlotOk.shut_id {g : Gh} {w : World} {bd : Bind} {s : Slot} (h : SlotOk g w bd s) {n : Nat} (hn : g.len ≤ n) : s.shut n = s := by
  cases s with
  | cells cs =>
    simp only [Slot.shut]
    cases bd with
    | none => exact h.elim
    | wait => congr 1; exact h _
    | tok r n => exact h.elim
    | obj l => exact h.elim
    | var b o n x =>
      obtain ⟨_, h0⟩ := h
      congr 1
      rw [shutL_eq]
      refine List.ext_getElem? fun j => ?_
      rw [List.getElem?_map]
      cases hj : cs[j]? with
      | none => rfl
      | some d =>
        obtain ⟨v, _, _, _, hr⟩ := h0 j d hj
        simp [Rep.shut_id hn d v hr]
  | tok n => rfl
  | dead => rfl
  | dfb => rfl
  | loop f t rf st =>
    cases bd with
    | obj l =>
      obtain ⟨r, h1, h2, h3, h4⟩ := h
      simp only [Slot.shut]
      rw [RepL.shut_id hn _ _ h3]
    | _ => exact h.elim

/-- the old part of the store alone is kept, shut -/
theorem Inv.close {g g1 : Gh} {A A1 B : St} {w w1 : World} (I : Inv g A w) (E : Ext g w g1 w1) (I1 : Inv g1 A1 w1) (hB : B.length = A.length)
    (hs : ∀ (k : Nat) s, B[k]? = some s → ∃ s1, A1[k]? = some s1 ∧ (s = s1.shut A.length)) :
    let g' : Gh := { g1 with len := g.len }
    Ext g w g' w1 ∧ Inv g' B w1 ∧ Keeps g1 w1 g' w1 := by
  intro g'
  have E' : Ext g w g' w1 := ⟨E.base, E.below, E.stabS, E.cellS, Nat.le_refl _, E.bind⟩
  have K : Keeps g1 w1 g' w1 := ⟨fun _ _ h => h, fun _ _ _ => rfl, fun _ _ _ => .inl (BindLe.refl _)⟩
  have hl : A.length = g.len := I.len.symm
  refine ⟨E', ⟨by rw [hB]; exact I.len, I1.base, fun k s hk => ?_, fun k k' b off h1 h2 => I1.sep k k' b off (Nat.lt_of_lt_of_le h1 E.len) (Nat.lt_of_lt_of_le h2 E.len), fun k b off h => I1.own k b off (Nat.lt_of_lt_of_le h E.len), I1.old⟩, K⟩
  obtain ⟨s1, h1, rfl⟩ := hs k s hk
  have := (I1.slot k s1 h1).shut K
  rw [hl]
  exact this
/-- the old part of the store alone is kept -/
theorem Inv.trunc {g g1 : Gh} {A A1 : St} {w w1 : World} (I : Inv g A w) (E : Ext g w g1 w1) (I1 : Inv g1 A1 w1) (hk : Kept A A1) :
    let g' : Gh := { g1 with len := g.len }
    Ext g w g' w1 ∧ Inv g' (A1.take A.length) w1 ∧ Keeps g1 w1 g' w1 := by
  refine I.close E I1 (by simp [hk.1]) fun k s hs => ?_
  rw [List.getElem?_take] at hs
  split at hs
  · rename_i hlt
    refine ⟨s, hs, ?_⟩
    rcases hk.2 k hlt with h | ⟨s', h, h'⟩
    · rw [hs] at h
      exact ((I.slot k s h.symm).shut_id (Nat.le_of_eq I.len)).symm
    · rw [hs] at h; cases h; exact h'.symm
  · cases hs
theorem closeSt_len (A A' : St) : (closeSt A A').length = A.length := by simp [closeSt]
theorem Inv.closeSt {g g1 : Gh} {A A1 : St} {w w1 : World} (I : Inv g A w) (E : Ext g w g1 w1) (I1 : Inv g1 A1 w1) :
    let g' : Gh := { g1 with len := g.len }
    Ext g w g' w1 ∧ Inv g' (Vm.closeSt A A1) w1 ∧ Keeps g1 w1 g' w1 := by
  refine I.close E I1 (closeSt_len _ _) fun k s hs => ?_
  have hlt : k < A.length := by have := (List.getElem?_eq_some_iff.1 hs).1; rwa [closeSt_len] at this
  have hlt1 : k < A1.length := by have := E.len; have := I.len; have := I1.len; omega
  simp only [Vm.closeSt, List.getElem?_map, List.getElem?_range hlt, Option.map_some, Option.some.injEq] at hs
  refine ⟨A1[k], by simp [hlt1], ?_⟩
  split at hs
  · rename_i h
    have e : A[k] = A1[k] := by
      have : some A1[k] = some A[k] := by rw [← List.getElem?_eq_getElem hlt1, ← List.getElem?_eq_getElem hlt]; exact h
      simpa using this.symm
    rw [List.getD_eq_getElem?_getD, List.getElem?_eq_getElem hlt, Option.getD_some] at hs
    rw [← e, ← hs]
    exact ((I.slot k A[k] (by simp [hlt])).shut_id (Nat.le_of_eq I.len)).symm
  · rw [List.getD_eq_getElem?_getD, List.getElem?_eq_getElem hlt1, Option.getD_some] at hs
    exact hs.symm
/-- an object that is no cells: laid, bound to a new slot -/
theorem Inv.alloc_obj {g : Gh} {A : St} {w : World} (I : Inv g A w) (o : Obj) (s : Slot) (hs : ∀ g' : Gh, Ext g w g' (w.alloc o) → SlotOk g' (w.alloc o) (.obj w.heap.size) s) :
    ∃ g', Ext g w g' (w.alloc o) ∧ Inv g' (A ++ [s]) (w.alloc o) ∧ g'.m g.len = .obj w.heap.size ∧ g'.len = g.len + 1 := by
  have E : Ext g w g (w.alloc o) := by
    refine ⟨rfl, (Below.refl _ _).alloc I.base _, fun _ _ h => h, fun b off hs => ?_, Nat.le_refl _, fun _ _ => BindLe.refl _⟩
    exact World.cell?_alloc_lt w _ ⟨b, off, none⟩ (I.old b off hs)
  have I1 : Inv g A (w.alloc o) := by
    refine ⟨I.len, by simpa using Nat.le_succ_of_le I.base, fun j s' hj => (I.slot j s' hj).keep E (fun b off ho => ?_) fun l hl => ?_, I.sep, I.own, fun b off hs => by simpa using Nat.lt_succ_of_lt (I.old b off hs)⟩
    · have hb : b < w.heap.size := I.lt (I.len ▸ (List.getElem?_eq_some_iff.1 hj).1) ho
      exact ⟨World.cell?_alloc_lt w _ ⟨b, off, none⟩ hb, World.frozen?_alloc_old w _ ⟨b, off, none⟩ (Nat.ne_of_lt hb)⟩
    · have hb : l < w.heap.size := I.lt (off := 0) (I.len ▸ (List.getElem?_eq_some_iff.1 hj).1) (by rw [hl]; rfl)
      exact Below.heap_alloc w _ l hb
  obtain ⟨E2, I2⟩ := I1.bind_new (.obj w.heap.size) s (hs g E) fun b off ho => by
    have ho : b = w.heap.size := ho
    subst ho
    exact ⟨fun h => absurd (I.stab_lt h) (Nat.lt_irrefl _), fun k hk h => absurd (I.lt hk h) (Nat.lt_irrefl _)⟩
  exact ⟨_, E.trans E2, I2, by simp, rfl⟩
end Go.Vm

/- What stands in variables that are at an end becomes values. -/
namespace Go.Vm
open Go.RowKit
set_option linter.unusedVariables false
set_option linter.unusedSectionVars false
theorem cells_one {v : Value} (h : v.oneCell' = true) : v.cells = #[v] := by
  cases v <;> first | rfl | simp [Value.oneCell'] at h
theorem mapVL_eq (n : Nat) (G : Nat → Nat → Nat → Nat → D) (ds : List D) : D.mapVL n G ds = ds.map (D.mapV n G) := by
  induction ds with
  | nil => rfl
  | cons d ds ih => simp [D.mapVL, ih]
@[simp] theorem mapVL_length (n : Nat) (G : Nat → Nat → Nat → Nat → D) (ds : List D) : (D.mapVL n G ds).length = ds.length := by simp [mapVL_eq]
theorem rowV_length (n : Nat) : ∀ (c : Nat) (cs : List D), (rowV n c cs).length = c
  | 0, _ => rfl
  | c + 1, cs => by simp [rowV, rowV_length n c]
section
variable {g g' : Gh} {w w' : World} (K : Keeps g w g' w') {G : Nat → Nat → Nat → Nat → D} (hG : ∀ k off es len v, g'.len ≤ k → Rep g w (.vsl k off es len) v → Rep g' w' (G k off es len) v)
include K hG
mutual
theorem Rep.mapV : ∀ (d : D) (v : Value), Rep g w d v → Rep g' w' (d.mapV g'.len G) v
  | .any, _, _ => by simp [D.mapV, Rep]
  | .bool _, _, h => by simpa [D.mapV, Rep] using h
  | .int _ _, _, h => by simpa [D.mapV, Rep] using h
  | .str _, _, h => by simpa [D.mapV, Rep] using h
  | .val _, _, h => by simpa [D.mapV, Rep] using h
  | .agg cs, v, h => by
    simp only [D.mapV, Rep] at h ⊢
    obtain ⟨vs, rfl, h⟩ := h
    exact ⟨vs, rfl, RepL.mapV cs _ h⟩
  | .tup ds, v, h => by
    simp only [D.mapV, Rep] at h ⊢
    obtain ⟨vs, rfl, h⟩ := h
    exact ⟨vs, rfl, RepL.mapV ds _ h⟩
  | .sl o es ds, v, h => by
    simp only [D.mapV, Rep] at h ⊢
    obtain ⟨a, cap, rfl, hc, ho, hr⟩ := h
    refine ⟨a, cap, by simp, by simpa using hc, by rw [mapVL_length]; exact ho.keep K, fun hne => ?_⟩
    obtain ⟨b, off, rfl, hrow⟩ := hr (by rintro rfl; exact hne (by simp [D.mapVL]))
    exact ⟨b, off, rfl, RepRow.mapV b es ds off hrow⟩
  | .vsl k off es len, v, h => by
    simp only [D.mapV, Rep] at h ⊢
    split
    · rename_i hk
      obtain ⟨h0, a, cap, rfl, hc, hw, ha⟩ := h
      simp only [Rep]
      obtain ⟨hle, hne⟩ := (K.bind k h0 hk).ne hw
      refine ⟨hk, a, cap, rfl, hc, hne, fun b o n x hm => ?_⟩
      rcases hle with hb | hb | ⟨r1, n1, r2, n2, h1, h2, h3⟩
      · exact ha b o n x (hb ▸ hm)
      · rw [hb.2] at hm; cases hm
      · rw [h2] at hm; cases hm
    · rename_i hk
      exact hG k off es len v (by omega) (by simp only [Rep]; exact h)
  | .ref k off, v, h => by
    simp only [D.mapV, Rep] at h ⊢
    split
    · rename_i hk
      obtain ⟨h0, a, rfl, hw, ha⟩ := h
      simp only [Rep]
      obtain ⟨hle, hne⟩ := (K.bind k h0 hk).ne hw
      refine ⟨hk, a, rfl, hne, fun b o n x hm => ?_⟩
      rcases hle with hb | hb | ⟨r1, n1, r2, n2, h1, h2, h3⟩
      · exact ha b o n x (hb ▸ hm)
      · rw [hb.2] at hm; cases hm
      · rw [h2] at hm; cases hm
    · simp [Rep]
  | .peek cs, v, h => by
    simp only [D.mapV, Rep] at h ⊢
    obtain ⟨b, off, rfl, h⟩ := h
    exact ⟨b, off, rfl, RepAt.mapV b cs off h⟩
  | .fn f first cap, v, h => by
    simp only [D.mapV, Rep] at h ⊢
    obtain ⟨fs, cs, rfl, h1, h2⟩ := h
    exact ⟨fs, cs, rfl, RepL.mapV first _ h1, RepL.mapV cap _ h2⟩
  | .iface t d, v, h => by
    simp only [D.mapV, Rep] at h ⊢
    obtain ⟨u, rfl, h⟩ := h
    exact ⟨u, rfl, Rep.mapV d u h⟩
  | .yld m k, v, h => by
    simp only [D.mapV, Rep] at h ⊢
    split
    · rename_i hk
      obtain ⟨hm, h0, l, rfl, hw, ha⟩ := h
      simp only [Rep]
      obtain ⟨hle, hne⟩ := (K.bind k h0 hk).ne hw
      refine ⟨hm, hk, l, rfl, hne, fun l' hm => ?_⟩
      rcases hle with hb | hb | ⟨r1, n1, r2, n2, h1, h2, h3⟩
      · exact ha l' (hb ▸ hm)
      · rw [hb.2] at hm; cases hm
      · rw [h2] at hm; cases hm
    · simp [Rep]
theorem RepL.mapV : ∀ (ds : List D) (vs : List Value), RepL g w ds vs → RepL g' w' (D.mapVL g'.len G ds) vs
  | [], vs, h => by simpa [D.mapVL, RepL] using h
  | d :: ds, vs, h => by
    simp only [D.mapVL, RepL] at h ⊢
    obtain ⟨v, r, rfl, h1, h2⟩ := h
    exact ⟨v, r, rfl, Rep.mapV d v h1, RepL.mapV ds r h2⟩
theorem RepAt.mapV : ∀ (b : Nat) (ds : List D) (off : Nat), RepAt g w b ds off → RepAt g' w' b (D.mapVL g'.len G ds) off
  | b, [], off, h => by simp [D.mapVL, RepAt]
  | b, d :: ds, off, h => by
    simp only [D.mapVL, RepAt] at h ⊢
    obtain ⟨⟨v, h1, h2, h3⟩, h4⟩ := h
    exact ⟨⟨v, K.stab _ _ h1, (K.cell _ _ h1).trans h2, Rep.mapV d v h3⟩, RepAt.mapV b ds (off + 1) h4⟩
theorem RepRow.mapV : ∀ (b es : Nat) (ds : List D) (off : Nat), RepRow g w b es ds off → RepRow g' w' b es (D.mapVL g'.len G ds) off
  | b, es, [], off, h => by simp [D.mapVL, RepRow]
  | b, es, d :: ds, off, h => by
    simp only [D.mapVL, RepRow] at h ⊢
    obtain ⟨⟨v, h1, h2, h3⟩, h4⟩ := h
    exact ⟨⟨v, Rep.mapV d v h1, h2, fun j hj => ⟨K.stab _ _ (h3 j hj).1, (K.cell _ _ (h3 j hj).1).trans (h3 j hj).2⟩⟩, RepRow.mapV b es ds (off + es) h4⟩
end
end
/-- what stands in variables from n on is stable -/
def frzG (g : Gh) (n : Nat) : Gh := { g with len := n, S := fun b off => g.S b off ∨ ∃ k, n ≤ k ∧ k < g.len ∧ (∃ b0 o m x, g.m k = .var b0 o m x) ∧ (g.m k).owns b off }
theorem frz_keeps (g : Gh) (n : Nat) (w : World) : Keeps g w (frzG g n) w :=
  ⟨fun b off h => h.elim .inl fun h => .inr (.inl h), fun _ _ _ => rfl, fun _ _ _ => .inl (BindLe.refl _)⟩
theorem rows_frz {g : Gh} {A : St} {w : World} (I : Inv g A w) {n : Nat} {G : Nat → Nat → Nat → Nat → D} (hG : ∀ k off es len v, n ≤ k → Rep g w (.vsl k off es len) v → Rep (frzG g n) w (G k off es len) v)
    {k : Nat} (hn : n ≤ k) (hk : k < g.len) {b o m x : Nat} (hm : g.m k = .var b o m x) {es : Nat} : ∀ (len off : Nat) (cs : List D), off + len * es ≤ m → cs.length = m →
      (∀ (j : Nat) d, cs[j]? = some d → ∃ v, w.cell? ⟨b, o + j, none⟩ = some v ∧ w.frozen? ⟨b, o + j, none⟩ = false ∧ v.oneCell' = true ∧ Rep g w d v) →
      RepRow (frzG g n) w b es (D.mapVL n G (rowV es len (cs.drop off))) (o + off)
  | 0, off, cs, _, _, _ => by simp [rowV, D.mapVL, RepRow]
  | len + 1, off, cs, hl, hcl, hc => by
    have K := frz_keeps g n w
    have hst : ∀ j, j < m → (frzG g n).stab b (o + j) := fun j hj => .inr (.inr ⟨k, hn, hk, ⟨b, o, m, x, hm⟩, by rw [hm]; exact ⟨rfl, by omega, by omega⟩⟩)
    have hl' : off + es + len * es ≤ m := by rw [Nat.add_mul] at hl; omega
    have ih := rows_frz I hG hn hk hm len (off + es) cs hl' hcl hc
    simp only [rowV, D.mapVL, RepRow]
    rw [List.drop_drop]
    refine ⟨?_, by rw [Nat.add_assoc]; exact ih⟩
    by_cases h1 : es = 1
    · subst h1
      have hlt : off < cs.length := by omega
      obtain ⟨v, v1, v2, v3, v4⟩ := hc off cs[off] (List.getElem?_eq_getElem hlt)
      have e : (cs.drop off).getD 0 .any = cs[off] := by simp [List.getD, List.getElem?_drop, List.getElem?_eq_getElem hlt]
      simp only [beq_self_eq_true, cond_true, e]
      have hcv := cells_one v3
      refine ⟨v, Rep.mapV K hG _ _ v4, ⟨by rw [hcv]; rfl, fun u hu => ?_⟩, fun j hj => ?_⟩
      · rw [hcv] at hu
        have : u = v := by simpa using hu
        rw [this]; exact v3
      · have : j = 0 := by omega
        subst this
        exact ⟨hst off (by omega), by rw [hcv]; exact v1⟩
    · have hb : (es == 1) = false := by simp [h1]
      rw [hb]
      simp only [cond_false]
      have hle : off + es ≤ cs.length := by omega
      have hall : ∀ (j : Nat) d, ((cs.drop off).take es)[j]? = some d → ∃ v, w.cell? ⟨b, o + off + j, none⟩ = some v ∧ v.oneCell' = true ∧ Rep g w d v := by
        intro j d hj
        rw [List.getElem?_take] at hj
        split at hj
        · rw [List.getElem?_drop] at hj
          obtain ⟨v, v1, _, v3, v4⟩ := hc (off + j) d hj
          exact ⟨v, by rw [Nat.add_assoc]; exact v1, v3, v4⟩
        · cases hj
      have key : ∀ (l : List D) (p : Nat), (∀ (j : Nat) d, l[j]? = some d → ∃ v, w.cell? ⟨b, p + j, none⟩ = some v ∧ v.oneCell' = true ∧ Rep g w d v) →
          ∃ vs : List Value, RepL g w l vs ∧ (∀ v ∈ vs, v.oneCell' = true) ∧ ∀ (j : Nat) v, vs[j]? = some v → w.cell? ⟨b, p + j, none⟩ = some v := by
        intro l
        induction l with
        | nil => exact fun p _ => ⟨[], by simp [RepL], by simp, by simp⟩
        | cons d l ihl =>
          intro p h
          obtain ⟨v, v1, v2, v3⟩ := h 0 d rfl
          obtain ⟨vs, q1, q2, q3⟩ := ihl (p + 1) fun j d hj => by
            have := h (j + 1) d (by simpa using hj)
            rwa [show p + (j + 1) = p + 1 + j by omega] at this
          refine ⟨v :: vs, by simp only [RepL]; exact ⟨v, vs, rfl, v3, q1⟩, fun u hu => ?_, fun j u hj => ?_⟩
          · rcases List.mem_cons.1 hu with rfl | hu
            · exact v2
            · exact q2 u hu
          · cases j with
            | zero => simp at hj; subst hj; exact v1
            | succ j =>
              have := q3 j u (by simpa using hj)
              rwa [show p + (j + 1) = p + 1 + j by omega]
      obtain ⟨vs, q1, q2, q3⟩ := key _ (o + off) hall
      have hvl : vs.length = es := by rw [← q1.length]; simp; omega
      refine ⟨.agg vs.toArray, ?_, ⟨by simp [Value.cells, hvl], fun u hu => q2 u (by simpa [Value.cells] using hu)⟩, fun j hj => ⟨?_, ?_⟩⟩
      · simp only [D.mapV, Rep]
        exact ⟨_, rfl, RepL.mapV K hG _ _ q1⟩
      · rw [Nat.add_assoc]; exact hst (off + j) (by omega)
      · have : j < vs.length := by omega
        rw [q3 j vs[j] (List.getElem?_eq_getElem this)]
        simp [Value.cells, this]
theorem frzV_rep {g : Gh} {A : St} {w : World} (I : Inv g A w) {n : Nat} : ∀ (f k off es len : Nat) (v : Value), n ≤ k → Rep g w (.vsl k off es len) v → Rep (frzG g n) w (frzV n A f k off es len) v
  | 0, k, off, es, len, v, hn, h => by simp [frzV, Rep]
  | f + 1, k, off, es, len, v, hn, h => by
    unfold frzV
    split
    · rename_i cs hA
      simp only [Rep] at h
      obtain ⟨hk, a, cap, rfl, hc, hnw, hv⟩ := h
      have hsl := I.slot k _ hA
      cases hm : g.m k with
      | none => rw [hm] at hsl; exact hsl.elim
      | wait => exact absurd hm hnw
      | tok r q => rw [hm] at hsl; exact hsl.elim
      | obj l => rw [hm] at hsl; exact hsl.elim
      | var b o m x =>
        rw [hm] at hsl
        obtain ⟨⟨rfl, _⟩, hcs⟩ := hsl
        obtain ⟨v1, v2, _⟩ := hv b o _ x hm
        have hrow := rows_frz I (G := frzV n A f) (fun k off es len v => frzV_rep I f k off es len v) hn hk hm len off cs v1 rfl hcs
        simp only [Rep]
        refine ⟨a, cap, by rw [mapVL_length, rowV_length], by rw [mapVL_length, rowV_length]; exact hc.1, trivial, fun hne => ?_⟩
        have hl : 0 < len := by
          rcases Nat.eq_zero_or_pos len with rfl | h
          · exact absurd (by simp [rowV, D.mapVL]) hne
          · exact h
        rcases v2 with rfl | ⟨v2, _⟩
        · exact ⟨b, o + off, rfl, hrow⟩
        · omega
    · simp [Rep]
theorem frz_rep {g : Gh} {A : St} {w : World} (I : Inv g A w) (n : Nat) {d : D} {v : Value} (h : Rep g w d v) : Rep (frzG g n) w (d.frz n A) v :=
  Rep.mapV (frz_keeps g n w) (fun k off es len v hk => frzV_rep I 5 k off es len v hk) d v h
theorem Inv.frz {g g1 : Gh} {A A1 : St} {w w1 : World} (I : Inv g A w) (E : Ext g w g1 w1) (I1 : Inv g1 A1 w1) (hk : Kept A A1) :
    Ext g w (frzG g1 g.len) w1 ∧ Inv (frzG g1 g.len) (A1.take A.length) w1 := by
  obtain ⟨E', I', K⟩ := I.trunc E I1 hk
  obtain ⟨E2, I2⟩ := I'.stab_add (fun b off => ∃ k, g.len ≤ k ∧ k < g1.len ∧ (∃ b0 o m x, g1.m k = .var b0 o m x) ∧ (g1.m k).owns b off) fun b off ⟨k, h1, h2, _, h3⟩ =>
    ⟨I1.lt h2 h3, fun j hj ho => by have := I1.sep j k b off (Nat.lt_of_lt_of_le hj E.len) h2 ho h3; have hj' : j < g.len := hj; omega⟩
  exact ⟨E'.trans E2, I2⟩
end Go.Vm
