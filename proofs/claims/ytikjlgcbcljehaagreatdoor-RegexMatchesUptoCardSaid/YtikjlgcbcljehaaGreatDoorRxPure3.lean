/- RxPure, RxPure2, RxPure3 in one text. -/
set_option linter.all false
/- Plain words: what texts, words and path expressions come to; no program in sight. -/
namespace Go.Vm.P
set_option linter.unusedVariables false
abbrev Str := List UInt8

def digit (c : UInt8) : Bool := decide (48 ≤ c.toNat ∧ c.toNat ≤ 57)
def letter (c : UInt8) : Bool := decide (97 ≤ c.toNat ∧ c.toNat ≤ 122) || decide (65 ≤ c.toNat ∧ c.toNat ≤ 90) || digit c || decide (c.toNat = 95) || decide (c.toNat = 45)
/-- "(),|*+?.$=<>" -/
def singles : Str := [40, 41, 44, 124, 42, 43, 63, 46, 36, 61, 60, 62]
def single (c : UInt8) : Bool := singles.contains c
/-- == <= >= -> -/
def pair (s : Str) : Bool := s == [61, 61] || s == [60, 61] || s == [62, 61] || s == [45, 62]
def isName : Str → Bool
  | [] => false
  | c :: r => decide (r.length < 64) && !digit c && decide (c.toNat ≠ 45) && (c :: r).all letter
/-- how many letters stand ahead, up to an arrow -/
def run : Str → Nat
  | [] => 0
  | c :: r => if letter c && !([45, 62].isPrefixOf (c :: r)) then run r + 1 else 0
/-- how long the word is that begins here -/
def wlen : Str → Nat
  | [] => 0
  | c :: r => if decide (1 ≤ r.length) && pair ((c :: r).take 2) then 2 else if single c then 1 else run (c :: r)
structure Word where
  t : Str
  line : Int
  col : Int
instance : Inhabited Word := ⟨⟨[], 0, 0⟩⟩
/-- path expressions -/
inductive Rx where
  | mk (op : Int) (nm : Str) (ks : List Rx)
def Rx.op : Rx → Int | .mk op _ _ => op
def Rx.nm : Rx → Str | .mk _ nm _ => nm
def Rx.ks : Rx → List Rx | .mk _ _ ks => ks
instance : Inhabited Rx := ⟨.mk 0 [] []⟩
theorem Rx.ind {Q : Rx → Prop} (h : ∀ r, (∀ k, k ∈ r.ks → Q k) → Q r) : ∀ r, Q r
  | .mk op nm ks => h _ fun k hk => Rx.ind h k
termination_by r => sizeOf r
decreasing_by
  have := List.sizeOf_lt_of_mem hk
  simp only [Rx.ks] at this
  simp only [Rx.mk.sizeOf_spec]
  omega
mutual
/-- how many nodes -/
def Rx.size : Rx → Nat | .mk _ _ ks => Rx.sizes ks + 1
def Rx.sizes : List Rx → Nat | [] => 0 | k :: ks => k.size + Rx.sizes ks
end
mutual
/-- how deep -/
def Rx.depth : Rx → Nat | .mk _ _ ks => Rx.depths ks + 1
def Rx.depths : List Rx → Nat | [] => 0 | k :: ks => max k.depth (Rx.depths ks)
end
def hasOp (op : Int) (ks : List Rx) : Bool := ks.any fun k => k.op == op
/-- may a node be, its kids aside? -/
def nodeOk (op : Int) (nm : Str) (ks : List Rx) : Bool :=
  if op = 1 ∨ op = 2 then isName nm && ks.length == 0
  else if op = 3 then nm == [] && ks.length == 0
  else if op = 4 then nm == [] && ks.length != 1 && !hasOp 4 ks
  else if op = 5 then nm == [] && decide (2 ≤ ks.length) && !hasOp 5 ks
  else if op = 6 ∨ op = 7 ∨ op = 8 then nm == [] && ks.length == 1
  else false
mutual
def Rx.right : Rx → Bool | .mk op nm ks => nodeOk op nm ks && Rx.rights ks
def Rx.rights : List Rx → Bool | [] => true | k :: ks => k.right && Rx.rights ks
end
mutual
/-- are all names and rows short? -/
def Rx.Ok : Rx → Prop | .mk _ nm ks => nm.length ≤ 100000000 ∧ ks.length ≤ 100000000 ∧ Rx.Oks ks
def Rx.Oks : List Rx → Prop | [] => True | k :: ks => k.Ok ∧ Rx.Oks ks
end
theorem Rx.size_eq (r : Rx) : r.size = Rx.sizes r.ks + 1 := by cases r; rfl
theorem Rx.depth_eq (r : Rx) : r.depth = Rx.depths r.ks + 1 := by cases r; rfl
theorem Rx.right_eq (r : Rx) : r.right = (nodeOk r.op r.nm r.ks && Rx.rights r.ks) := by cases r; rfl
theorem Rx.Ok_eq (r : Rx) : r.Ok ↔ r.nm.length ≤ 100000000 ∧ r.ks.length ≤ 100000000 ∧ Rx.Oks r.ks := by cases r; rfl
theorem Rx.Oks_mem : ∀ {ks : List Rx}, Rx.Oks ks → ∀ k, k ∈ ks → k.Ok
  | k :: ks, h, x, hx => by
    rcases List.mem_cons.1 hx with rfl | hx
    · exact h.1
    · exact Rx.Oks_mem h.2 x hx
theorem Rx.Ok.kid {r : Rx} (h : r.Ok) {k : Rx} (hk : k ∈ r.ks) : k.Ok := Rx.Oks_mem ((Rx.Ok_eq r).1 h).2.2 k hk
theorem Rx.Ok.len {r : Rx} (h : r.Ok) : r.ks.length ≤ 100000000 := ((Rx.Ok_eq r).1 h).2.1
theorem Rx.Ok.nml {r : Rx} (h : r.Ok) : r.nm.length ≤ 100000000 := ((Rx.Ok_eq r).1 h).1
mutual
theorem Rx.depth_le : ∀ r : Rx, r.depth ≤ r.size
  | .mk _ _ ks => by have := Rx.depths_le ks; simp only [Rx.depth, Rx.size]; omega
theorem Rx.depths_le : ∀ ks : List Rx, Rx.depths ks ≤ Rx.sizes ks
  | [] => Nat.le_refl _
  | k :: ks => by have := Rx.depth_le k; have := Rx.depths_le ks; simp only [Rx.depths, Rx.sizes]; omega
end
theorem Rx.size_pos (r : Rx) : 1 ≤ r.size := by rw [Rx.size_eq]; omega
theorem Rx.depth_pos (r : Rx) : 1 ≤ r.depth := by rw [Rx.depth_eq]; omega
/-- may an expression be? -/
def Rx.check (r : Rx) : Int := if 1000 < r.size then 3 else if 100 < r.depth then 91 else if r.right then 0 else 92

/-! texts -/
/-- a line's row before the others, if it has words -/
def putRow (l : List Word) (x : Except (Int × Int) (List (List Word))) : Except (Int × Int) (List (List Word)) :=
  x.map fun ls => match l with | [] => ls | _ :: _ => l :: ls
/-! expressions of words -/
def wordAt (l : List Word) (i : Nat) : Str := match l[i]? with | some w => w.t | none => []
/-- several as one: those of the same kind are taken apart -/
def flat (op : Int) : List Rx → List Rx
  | [] => []
  | r :: rs => (if r.op = op then r.ks else [r]) ++ flat op rs
def join (op : Int) (l : List Rx) : Rx :=
  match l with
  | [r] => r
  | l => match flat op l with
    | [r] => r
    | ks => .mk op [] ks
/-- what a reader comes to: an expression and the next place; or where the fault stands, and which it is -/
abbrev PR := Option (Except (Nat × Int) (Rx × Nat))
def PR.bind (x : PR) (f : Rx → Nat → PR) : PR :=
  match x with
  | none => none
  | some (.error e) => some (.error e)
  | some (.ok (r, i)) => f r i
def opOf (w : Str) : Int := if w = [42] then 6 else if w = [43] then 7 else if w = [63] then 8 else 0
def starts (w : Str) : Bool := w == [36] || w == [46] || w == [40] || isName w
mutual
def pAlt (l : List Word) : Nat → Nat → Nat → PR
  | 0, _, _ => none
  | n + 1, o, i => PR.bind (pSeq l n o i) fun r i => pAlts l n o i [r]
def pAlts (l : List Word) : Nat → Nat → Nat → List Rx → PR
  | 0, _, _, _ => none
  | n + 1, o, i, acc => if wordAt l i = [124] then PR.bind (pSeq l n o (i + 1)) fun r i => pAlts l n o i (acc ++ [r]) else some (.ok (join 5 acc, i))
def pSeq (l : List Word) : Nat → Nat → Nat → PR
  | 0, _, _ => none
  | n + 1, o, i => PR.bind (pRep l n o i) fun r i => pSeqs l n o i [r]
def pSeqs (l : List Word) : Nat → Nat → Nat → List Rx → PR
  | 0, _, _, _ => none
  | n + 1, o, i, acc => if starts (wordAt l i) then PR.bind (pRep l n o i) fun r i => pSeqs l n o i (acc ++ [r]) else some (.ok (join 4 acc, i))
def pRep (l : List Word) : Nat → Nat → Nat → PR
  | 0, _, _ => none
  | n + 1, o, i => PR.bind (pAtom l n o i) fun r i => pReps l n i r
def pReps (l : List Word) : Nat → Nat → Rx → PR
  | 0, _, _ => none
  | n + 1, i, r => if opOf (wordAt l i) = 0 then some (.ok (r, i)) else pReps l n (i + 1) (.mk (opOf (wordAt l i)) [] [r])
def pAtom (l : List Word) : Nat → Nat → Nat → PR
  | 0, _, _ => none
  | n + 1, o, i =>
    if wordAt l i = [46] then some (.ok (.mk 3 [] [], i + 1))
    else if wordAt l i = [36] then
      (if isName (wordAt l (i + 1)) then some (.ok (.mk 2 (wordAt l (i + 1)) [], i + 2)) else some (.error (i + 1, 90)))
    else if wordAt l i = [40] then
      (if 50 ≤ o then some (.error (i, 91))
       else if wordAt l (i + 1) = [41] then some (.ok (.mk 4 [] [], i + 2))
       else PR.bind (pAlt l n (o + 1) (i + 1)) fun r j => if wordAt l j = [41] then some (.ok (r, j + 1)) else some (.error (j, 90)))
    else if isName (wordAt l i) then some (.ok (.mk 1 (wordAt l i) [], i + 1))
    else some (.error (i, 90))
end
end Go.Vm.P

/- Plain facts of the reader of expressions: it comes to an end; how great what it reads is. -/
namespace Go.Vm.P
set_option linter.unusedVariables false
mutual
/-- are all names short, and has an alternative two kids and more? -/
def Rx.Nm : Rx → Prop | .mk op nm ks => nm.length ≤ 100000000 ∧ (op = 5 → 2 ≤ ks.length) ∧ Rx.Nms ks
def Rx.Nms : List Rx → Prop | [] => True | k :: ks => k.Nm ∧ Rx.Nms ks
end
theorem Rx.len_sizes : ∀ ks : List Rx, ks.length ≤ Rx.sizes ks
  | [] => Nat.le_refl _
  | k :: ks => by have := Rx.len_sizes ks; have := Rx.size_pos k; simp only [List.length_cons, Rx.sizes]; omega
mutual
theorem Rx.Nm.ok : ∀ r : Rx, r.Nm → r.size ≤ 100000000 → r.Ok
  | .mk op nm ks, h, hs => by
    simp only [Rx.size] at hs
    have := Rx.len_sizes ks
    exact ⟨h.1, by omega, Rx.Nms.ok ks h.2.2 (by omega)⟩
theorem Rx.Nms.ok : ∀ ks : List Rx, Rx.Nms ks → Rx.sizes ks ≤ 100000000 → Rx.Oks ks
  | [], _, _ => trivial
  | k :: ks, h, hs => by
    simp only [Rx.sizes] at hs
    exact ⟨Rx.Nm.ok k h.1 (by omega), Rx.Nms.ok ks h.2 (by omega)⟩
end
theorem Rx.sizes_append : ∀ a b : List Rx, Rx.sizes (a ++ b) = Rx.sizes a + Rx.sizes b
  | [], b => by simp [Rx.sizes]
  | k :: a, b => by simp only [List.cons_append, Rx.sizes, Rx.sizes_append a b]; omega
theorem Rx.Nms_append : ∀ a b : List Rx, Rx.Nms (a ++ b) ↔ Rx.Nms a ∧ Rx.Nms b
  | [], b => by simp [Rx.Nms]
  | k :: a, b => by simp only [List.cons_append, Rx.Nms, Rx.Nms_append a b, and_assoc]
theorem flat_sizes (op : Int) : ∀ l, Rx.sizes (flat op l) ≤ Rx.sizes l
  | [] => Nat.le_refl _
  | r :: l => by
    have := flat_sizes op l
    simp only [flat, Rx.sizes_append, Rx.sizes]
    split
    · have := Rx.size_eq r; omega
    · simp only [Rx.sizes]; omega
theorem Rx.Nm_ks {r : Rx} (h : r.Nm) : Rx.Nms r.ks := by cases r; exact h.2.2
theorem Rx.Nm_alt {r : Rx} (h : r.Nm) : r.op = 5 → 2 ≤ r.ks.length := by cases r; exact h.2.1
theorem flat_Nms (op : Int) : ∀ l, Rx.Nms l → Rx.Nms (flat op l)
  | [], _ => trivial
  | r :: l, h => by
    simp only [flat, Rx.Nms_append]
    refine ⟨?_, flat_Nms op l h.2⟩
    split
    · exact Rx.Nm_ks h.1
    · exact ⟨h.1, trivial⟩
theorem flat_long : ∀ l : List Rx, Rx.Nms l → l.length ≤ (flat 5 l).length
  | [], _ => Nat.le_refl _
  | r :: l, h => by
    have := flat_long l h.2
    simp only [flat, List.length_append, List.length_cons]
    split
    · have := Rx.Nm_alt h.1 (by assumption); omega
    · simp only [List.length_cons, List.length_nil]; omega
theorem two_long {l : List Rx} (h : l ≠ []) (hne : ∀ r, l ≠ [r]) : 2 ≤ l.length := by
  match l, h, hne with
  | [r], _, hne => exact absurd rfl (hne r)
  | _ :: _ :: _, _, _ => simp
theorem join_size {op : Int} {l : List Rx} (h : l ≠ []) : (join op l).size + 1 ≤ Rx.sizes l + l.length := by
  unfold join
  split
  · simp [Rx.sizes]
  · rename_i hne
    have h2 : 2 ≤ l.length := by
      match l, h, hne with
      | [r], _, hne => exact absurd rfl (hne r)
      | _ :: _ :: _, _, _ => simp
    have := flat_sizes op l
    split
    · rename_i r hr
      rw [hr] at this
      simp only [Rx.sizes] at this
      omega
    · simp only [Rx.size]; omega
theorem join_Nm {op : Int} {l : List Rx} (hne : l ≠ []) (h : Rx.Nms l) : (join op l).Nm := by
  unfold join
  split
  · exact h.1
  · rename_i hone
    have := flat_Nms op l h
    split
    · rename_i r hr
      rw [hr] at this
      exact this.1
    · refine ⟨by simp, fun e => ?_, this⟩
      subst e
      have h1 := flat_long l h
      have h2 := two_long hne (fun r e => hone r e)
      omega
/-- what is read is right -/
structure Good (L i : Nat) (r : Rx) (j : Nat) : Prop where
  lt : i < j
  le : j ≤ L
  size : r.size + 1 ≤ 2 * (j - i)
  nm : r.Nm
def Fact (L i : Nat) : Except (Nat × Int) (Rx × Nat) → Prop
  | .ok (r, j) => Good L i r j
  | .error (a, c) => i ≤ a ∧ a ≤ L ∧ (c = 90 ∨ c = 91)
theorem PR.bind_some {x : PR} {f : Rx → Nat → PR} {y : Except (Nat × Int) (Rx × Nat)} (h : PR.bind x f = some y) : (∃ e, x = some (.error e) ∧ y = .error e) ∨ ∃ r i, x = some (.ok (r, i)) ∧ f r i = some y := by
  match x, h with
  | some (.error e), h => simp only [PR.bind, Option.some.injEq] at h; exact .inl ⟨e, rfl, h.symm⟩
  | some (.ok (r, i)), h => exact .inr ⟨r, i, rfl, h⟩
theorem wordAt_in {l : List Word} {i : Nat} (h : wordAt l i ≠ []) : i < l.length := by
  unfold wordAt at h
  cases hi : l[i]? with
  | none => rw [hi] at h; exact absurd rfl h
  | some w => exact (List.getElem?_eq_some_iff.1 hi).1
theorem wordAt_short {l : List Word} (hw : ∀ w, w ∈ l → w.t.length ≤ 100000000) (i : Nat) : (wordAt l i).length ≤ 100000000 := by
  unfold wordAt
  cases hi : l[i]? with
  | none => simp
  | some w => exact hw w (List.mem_of_getElem? hi)
theorem isName_ne {s : Str} (h : isName s = true) : s ≠ [] := by rintro rfl; cases h
theorem starts_ne {s : Str} (h : starts s = true) : s ≠ [] := by rintro rfl; cases h
theorem opOf_ne {s : Str} (h : ¬ opOf s = 0) : s ≠ [] := by rintro rfl; exact h rfl
theorem opOf_5 (s : Str) : ¬ opOf s = 5 := by
  unfold opOf
  split
  · decide
  · split
    · decide
    · split <;> decide
section
variable {l : List Word} (hw : ∀ w, w ∈ l → w.t.length ≤ 100000000)
include hw
/-- all that is read, by the reader's bound on steps -/
structure Facts (l : List Word) (n : Nat) : Prop where
  alt : ∀ o i x, i ≤ l.length → pAlt l n o i = some x → Fact l.length i x
  alts : ∀ o i i0 acc x, i0 < i → i ≤ l.length → acc ≠ [] → Rx.sizes acc + acc.length ≤ 2 * (i - i0) → Rx.Nms acc → pAlts l n o i acc = some x → Fact l.length i0 x
  seq : ∀ o i x, i ≤ l.length → pSeq l n o i = some x → Fact l.length i x
  seqs : ∀ o i i0 acc x, i0 < i → i ≤ l.length → acc ≠ [] → Rx.sizes acc + acc.length ≤ 2 * (i - i0) → Rx.Nms acc → pSeqs l n o i acc = some x → Fact l.length i0 x
  rep : ∀ o i x, i ≤ l.length → pRep l n o i = some x → Fact l.length i x
  reps : ∀ i i0 r x, i0 < i → i ≤ l.length → r.size + 1 ≤ 2 * (i - i0) → r.Nm → pReps l n i r = some x → Fact l.length i0 x
  atom : ∀ o i x, i ≤ l.length → pAtom l n o i = some x → Fact l.length i x
theorem facts : ∀ n, Facts l n
  | 0 => ⟨fun _ _ _ _ h => by simp [pAlt] at h, fun _ _ _ _ _ _ _ _ _ _ h => by simp [pAlts] at h, fun _ _ _ _ h => by simp [pSeq] at h, fun _ _ _ _ _ _ _ _ _ _ h => by simp [pSeqs] at h, fun _ _ _ _ h => by simp [pRep] at h,
      fun _ _ _ _ _ _ _ _ h => by simp [pReps] at h, fun _ _ _ _ h => by simp [pAtom] at h⟩
  | n + 1 => by
    have ih := facts n
    refine ⟨?_, ?_, ?_, ?_, ?_, ?_, ?_⟩
    · intro o i x hi h
      simp only [pAlt] at h
      rcases PR.bind_some h with ⟨e, h1, rfl⟩ | ⟨r, j, h1, h2⟩
      · exact ih.seq o i _ hi h1
      · have g : Good l.length i r j := ih.seq o i _ hi h1
        exact ih.alts o j i [r] x g.lt g.le (by simp) (by have := g.size; simp [Rx.sizes]; omega) ⟨g.nm, trivial⟩ h2
    · intro o i i0 acc x h0 hi hne hs hnm h
      simp only [pAlts] at h
      split at h
      · rename_i hp
        have hlt := wordAt_in (l := l) (i := i) (by rw [hp]; simp)
        rcases PR.bind_some h with ⟨e, h1, rfl⟩ | ⟨r, j, h1, h2⟩
        · have := ih.seq o (i + 1) _ (by omega) h1
          exact ⟨by have := this.1; omega, this.2⟩
        · have g : Good l.length (i + 1) r j := ih.seq o (i + 1) _ (by omega) h1
          have g1 := g.lt; have g2 := g.size
          exact ih.alts o j i0 (acc ++ [r]) x (by omega) g.le (by simp) (by simp [Rx.sizes_append, Rx.sizes]; omega) ((Rx.Nms_append _ _).2 ⟨hnm, g.nm, trivial⟩) h2
      · cases h
        exact ⟨h0, hi, by have := join_size (op := 5) hne; omega, join_Nm hne hnm⟩
    · intro o i x hi h
      simp only [pSeq] at h
      rcases PR.bind_some h with ⟨e, h1, rfl⟩ | ⟨r, j, h1, h2⟩
      · exact ih.rep o i _ hi h1
      · have g : Good l.length i r j := ih.rep o i _ hi h1
        exact ih.seqs o j i [r] x g.lt g.le (by simp) (by have := g.size; simp [Rx.sizes]; omega) ⟨g.nm, trivial⟩ h2
    · intro o i i0 acc x h0 hi hne hs hnm h
      simp only [pSeqs] at h
      split at h
      · rcases PR.bind_some h with ⟨e, h1, rfl⟩ | ⟨r, j, h1, h2⟩
        · have := ih.rep o i _ hi h1
          exact ⟨by have := this.1; omega, this.2⟩
        · have g : Good l.length i r j := ih.rep o i _ hi h1
          have g1 := g.lt; have g2 := g.size
          exact ih.seqs o j i0 (acc ++ [r]) x (by omega) g.le (by simp) (by simp [Rx.sizes_append, Rx.sizes]; omega) ((Rx.Nms_append _ _).2 ⟨hnm, g.nm, trivial⟩) h2
      · cases h
        exact ⟨h0, hi, by have := join_size (op := 4) hne; omega, join_Nm hne hnm⟩
    · intro o i x hi h
      simp only [pRep] at h
      rcases PR.bind_some h with ⟨e, h1, rfl⟩ | ⟨r, j, h1, h2⟩
      · exact ih.atom o i _ hi h1
      · have g : Good l.length i r j := ih.atom o i _ hi h1
        exact ih.reps j i r x g.lt g.le g.size g.nm h2
    · intro i i0 r x h0 hi hs hnm h
      simp only [pReps] at h
      split at h
      · cases h
        exact ⟨h0, hi, hs, hnm⟩
      · rename_i hp
        have hlt := wordAt_in (l := l) (i := i) (opOf_ne hp)
        exact ih.reps (i + 1) i0 _ x (by omega) (by omega) (by simp only [Rx.size, Rx.sizes]; omega) (show Rx.Nm (.mk (opOf (wordAt l i)) [] [r]) from ⟨by simp, fun e => absurd e (opOf_5 _), hnm, trivial⟩) h
    · intro o i x hi h
      simp only [pAtom] at h
      split at h
      · rename_i hp
        have hlt := wordAt_in (l := l) (i := i) (by rw [hp]; simp)
        cases h
        exact ⟨by omega, by omega, by simp only [Rx.size, Rx.sizes]; omega, ⟨by simp, fun e => absurd e (by decide), trivial⟩⟩
      · split at h
        · rename_i hp
          have hlt := wordAt_in (l := l) (i := i) (by rw [hp]; simp)
          split at h
          · rename_i hn
            have hlt2 := wordAt_in (l := l) (i := i + 1) (isName_ne hn)
            cases h
            exact ⟨by omega, by omega, by simp only [Rx.size, Rx.sizes]; omega, ⟨wordAt_short hw _, fun e => absurd e (by decide), trivial⟩⟩
          · cases h
            exact ⟨by omega, by omega, .inl rfl⟩
        · split at h
          · rename_i hp
            have hlt := wordAt_in (l := l) (i := i) (by rw [hp]; simp)
            split at h
            · cases h
              exact ⟨by omega, by omega, .inr rfl⟩
            · split at h
              · rename_i hp2
                have hlt2 := wordAt_in (l := l) (i := i + 1) (by rw [hp2]; simp)
                cases h
                exact ⟨by omega, by omega, by simp only [Rx.size, Rx.sizes]; omega, ⟨by simp, fun e => absurd e (by decide), trivial⟩⟩
              · rcases PR.bind_some h with ⟨e, h1, rfl⟩ | ⟨r, j, h1, h2⟩
                · have := ih.alt (o + 1) (i + 1) _ (by omega) h1
                  exact ⟨by have := this.1; omega, this.2⟩
                · have g : Good l.length (i + 1) r j := ih.alt (o + 1) (i + 1) _ (by omega) h1
                  have g1 := g.lt; have g2 := g.size; have g3 := g.le
                  split at h2
                  · rename_i hp3
                    have hlt3 := wordAt_in (l := l) (i := j) (by rw [hp3]; simp)
                    cases h2
                    exact ⟨by omega, by omega, by omega, g.nm⟩
                  · cases h2
                    exact ⟨by omega, by omega, .inl rfl⟩
          · split at h
            · rename_i hn
              have hlt := wordAt_in (l := l) (i := i) (isName_ne hn)
              cases h
              exact ⟨by omega, by omega, by simp only [Rx.size, Rx.sizes]; omega, ⟨wordAt_short hw _, fun e => absurd e (by decide), trivial⟩⟩
            · cases h
              exact ⟨by omega, by omega, .inl rfl⟩
/-- with so many steps there is an answer -/
structure Ends (l : List Word) (n : Nat) : Prop where
  alt : ∀ o i, i ≤ l.length → 8 * (l.length - i) + 4 ≤ n → ∃ x, pAlt l n o i = some x
  alts : ∀ o i acc, i ≤ l.length → 8 * (l.length - i) + 1 ≤ n → ∃ x, pAlts l n o i acc = some x
  seq : ∀ o i, i ≤ l.length → 8 * (l.length - i) + 3 ≤ n → ∃ x, pSeq l n o i = some x
  seqs : ∀ o i acc, i ≤ l.length → 8 * (l.length - i) + 3 ≤ n → ∃ x, pSeqs l n o i acc = some x
  rep : ∀ o i, i ≤ l.length → 8 * (l.length - i) + 2 ≤ n → ∃ x, pRep l n o i = some x
  reps : ∀ i r, i ≤ l.length → (l.length - i) + 1 ≤ n → ∃ x, pReps l n i r = some x
  atom : ∀ o i, i ≤ l.length → 8 * (l.length - i) + 1 ≤ n → ∃ x, pAtom l n o i = some x
omit hw in
theorem bind_ends {x : PR} {f : Rx → Nat → PR} {y : Except (Nat × Int) (Rx × Nat)} (h : x = some y) (k : ∀ r j, y = .ok (r, j) → ∃ z, f r j = some z) : ∃ z, PR.bind x f = some z := by
  subst h
  match y, k with
  | .error e, _ => exact ⟨_, rfl⟩
  | .ok (r, j), k => exact k r j rfl
theorem ends : ∀ n, Ends l n
  | 0 => ⟨fun _ _ _ h => by omega, fun _ _ _ _ h => by omega, fun _ _ _ h => by omega, fun _ _ _ _ h => by omega, fun _ _ _ h => by omega, fun _ _ _ h => by omega, fun _ _ _ h => by omega⟩
  | n + 1 => by
    have ih := ends n
    have fc := facts hw n
    refine ⟨?_, ?_, ?_, ?_, ?_, ?_, ?_⟩
    · intro o i hi h
      simp only [pAlt]
      obtain ⟨y, hy⟩ := ih.seq o i hi (by omega)
      refine bind_ends hy fun r j e => ?_
      have g : Good l.length i r j := by have := fc.seq o i _ hi hy; rwa [e] at this
      have := g.lt; have := g.le
      exact ih.alts o j [r] g.le (by omega)
    · intro o i acc hi h
      simp only [pAlts]
      split
      · rename_i hp
        have hlt := wordAt_in (l := l) (i := i) (by rw [hp]; simp)
        obtain ⟨y, hy⟩ := ih.seq o (i + 1) (by omega) (by omega)
        refine bind_ends hy fun r j e => ?_
        have g : Good l.length (i + 1) r j := by have := fc.seq o (i + 1) _ (by omega) hy; rwa [e] at this
        have := g.lt; have := g.le
        exact ih.alts o j (acc ++ [r]) g.le (by omega)
      · exact ⟨_, rfl⟩
    · intro o i hi h
      simp only [pSeq]
      obtain ⟨y, hy⟩ := ih.rep o i hi (by omega)
      refine bind_ends hy fun r j e => ?_
      have g : Good l.length i r j := by have := fc.rep o i _ hi hy; rwa [e] at this
      have := g.lt; have := g.le
      exact ih.seqs o j [r] g.le (by omega)
    · intro o i acc hi h
      simp only [pSeqs]
      split
      · rename_i hp
        have hlt := wordAt_in (l := l) (i := i) (starts_ne hp)
        obtain ⟨y, hy⟩ := ih.rep o i hi (by omega)
        refine bind_ends hy fun r j e => ?_
        have g : Good l.length i r j := by have := fc.rep o i _ hi hy; rwa [e] at this
        have := g.lt; have := g.le
        exact ih.seqs o j (acc ++ [r]) g.le (by omega)
      · exact ⟨_, rfl⟩
    · intro o i hi h
      simp only [pRep]
      obtain ⟨y, hy⟩ := ih.atom o i hi (by omega)
      refine bind_ends hy fun r j e => ?_
      have g : Good l.length i r j := by have := fc.atom o i _ hi hy; rwa [e] at this
      have := g.lt; have := g.le
      exact ih.reps j r g.le (by omega)
    · intro i r hi h
      simp only [pReps]
      split
      · exact ⟨_, rfl⟩
      · rename_i hp
        have hlt := wordAt_in (l := l) (i := i) (opOf_ne hp)
        exact ih.reps (i + 1) _ (by omega) (by omega)
    · intro o i hi h
      simp only [pAtom]
      split
      · exact ⟨_, rfl⟩
      · split
        · split <;> exact ⟨_, rfl⟩
        · split
          · rename_i hp
            have hlt := wordAt_in (l := l) (i := i) (by rw [hp]; simp)
            split
            · exact ⟨_, rfl⟩
            · split
              · exact ⟨_, rfl⟩
              · obtain ⟨y, hy⟩ := ih.alt (o + 1) (i + 1) (by omega) (by omega)
                refine bind_ends hy fun r j e => ?_
                split <;> exact ⟨_, rfl⟩
          · split <;> exact ⟨_, rfl⟩
end
end Go.Vm.P
namespace Go.Vm.P
/-- no expression -/
def Rx.no : Rx := .mk 0 [] []
end Go.Vm.P

/- The words of a text: how many, where; what a text is parsed as. -/
namespace Go.Vm.P
set_option linter.unusedVariables false
mutual
/-- are two the same? -/
def Rx.same : Rx → Rx → Bool | .mk o n ks, r => decide (o = r.op) && decide (n = r.nm) && Rx.sames ks r.ks
def Rx.sames : List Rx → List Rx → Bool
  | [], [] => true
  | k :: ks, k' :: ks' => k.same k' && Rx.sames ks ks'
  | _, _ => false
end
theorem Rx.same_eq (a b : Rx) : a.same b = (decide (a.op = b.op) && decide (a.nm = b.nm) && Rx.sames a.ks b.ks) := by cases a; rfl
theorem Rx.sames_len : ∀ {a b : List Rx}, a.length ≠ b.length → Rx.sames a b = false
  | [], [], h => absurd rfl h
  | [], _ :: _, _ => by unfold Rx.sames; rfl
  | _ :: _, [], _ => by unfold Rx.sames; rfl
  | a :: l, b :: m, h => by
    unfold Rx.sames
    rw [Rx.sames_len (a := l) (b := m) (fun e => h (by simp [e]))]
    simp
mutual
theorem Rx.same_refl : ∀ r : Rx, r.same r = true
  | .mk o n ks => by
    unfold Rx.same
    have := Rx.sames_refl ks
    simp [Rx.op, Rx.nm, Rx.ks, this]
theorem Rx.sames_refl : ∀ l : List Rx, Rx.sames l l = true
  | [] => by unfold Rx.sames; rfl
  | k :: ks => by
    unfold Rx.sames
    rw [Rx.same_refl k, Rx.sames_refl ks]; rfl
end
mutual
theorem Rx.same_iff : ∀ a b : Rx, a.same b = true → a = b
  | .mk o n ks, .mk o' n' ks', h => by
    unfold Rx.same at h
    simp only [Rx.op, Rx.nm, Rx.ks, Bool.and_eq_true, decide_eq_true_eq] at h
    rw [of_decide_eq_true h.1.1, of_decide_eq_true h.1.2, Rx.sames_iff ks ks' h.2]
theorem Rx.sames_iff : ∀ a b : List Rx, Rx.sames a b = true → a = b
  | [], [], _ => rfl
  | [], _ :: _, h => by unfold Rx.sames at h; cases h
  | _ :: _, [], h => by unfold Rx.sames at h; cases h
  | a :: l, b :: m, h => by
    unfold Rx.sames at h
    simp only [Bool.and_eq_true] at h
    rw [Rx.same_iff a b h.1, Rx.sames_iff l m h.2]
end
end Go.Vm.P
