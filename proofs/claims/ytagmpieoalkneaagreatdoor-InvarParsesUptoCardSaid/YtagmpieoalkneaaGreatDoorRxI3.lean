/- RxPure, RxPure2, RxPure3, RxI, RxI2, RxI3 in one text. -/
set_option linter.all false
/- Plain words: what texts, words and path expressions come to; no program in sight. -/
namespace Go.Vm.P
abbrev Str := List UInt8

def digit (c : UInt8) : Bool := decide (48 ≤ c.toNat ∧ c.toNat ≤ 57)
def letter (c : UInt8) : Bool := decide (97 ≤ c.toNat ∧ c.toNat ≤ 122) || decide (65 ≤ c.toNat ∧ c.toNat ≤ 90) || digit c || decide (c.toNat = 95) || decide (c.toNat = 45)
def singles : Str := [40, 41, 44, 124, 42, 43, 63, 46, 36, 61, 60, 62]
def single (c : UInt8) : Bool := singles.contains c
def pair (s : Str) : Bool := s == [61, 61] || s == [60, 61] || s == [62, 61] || s == [45, 62]
def isName : Str → Bool
  | [] => false
  | c :: r => decide (r.length < 64) && !digit c && decide (c.toNat ≠ 45) && (c :: r).all letter
def run : Str → Nat
  | [] => 0
  | c :: r => if letter c && !([45, 62].isPrefixOf (c :: r)) then run r + 1 else 0
def wlen : Str → Nat
  | [] => 0
  | c :: r => if decide (1 ≤ r.length) && pair ((c :: r).take 2) then 2 else if single c then 1 else run (c :: r)
structure Word where
  t : Str
  line : Int
  col : Int
instance : Inhabited Word := ⟨⟨[], 0, 0⟩⟩
theorem run_le : ∀ s, run s ≤ s.length
  | [] => Nat.le_refl _
  | c :: r => by
    unfold run
    split
    · simpa using run_le r
    · simp
theorem wlen_le (s : Str) : wlen s ≤ s.length := by
  unfold wlen
  split
  · simp
  · split
    · rename_i h; simp at h; simp; omega
    · split
      · simp
      · exact run_le _
def toks (n : Int) (fuel : Nat) (at_ : Nat) (s : Str) : Option (Except Nat (List Word)) :=
  match fuel with
  | 0 => none
  | fuel + 1 => match s with
    | [] => some (.ok [])
    | c :: r =>
      if c = 35 then some (.ok [])
      else if c = 32 ∨ c = 9 then toks n fuel (at_ + 1) r
      else if wlen (c :: r) = 0 then some (.error at_)
      else (toks n fuel (at_ + wlen (c :: r)) ((c :: r).drop (wlen (c :: r)))).map fun x => x.map fun l => ⟨(c :: r).take (wlen (c :: r)), n, at_ + 1⟩ :: l
theorem byte_eq (c d : UInt8) : c = d ↔ c.toNat = d.toNat := UInt8.toNat_inj.symm
theorem toks_nil (n : Int) (f a : Nat) : toks n (f + 1) a [] = some (.ok []) := rfl
theorem toks_cons (n : Int) (f a : Nat) (c : UInt8) (r : Str) : toks n (f + 1) a (c :: r) =
    if c.toNat = 35 then some (.ok []) else if c.toNat = 32 ∨ c.toNat = 9 then toks n f (a + 1) r
    else if wlen (c :: r) = 0 then some (.error a)
    else (toks n f (a + wlen (c :: r)) ((c :: r).drop (wlen (c :: r)))).map fun x => x.map fun l => ⟨(c :: r).take (wlen (c :: r)), n, a + 1⟩ :: l := by
  rw [toks]
  simp only [byte_eq]
  rfl
theorem toks_some (n : Int) : ∀ (f a : Nat) (s : Str), s.length < f → ∃ x, toks n f a s = some x
  | 0, _, _, h => by omega
  | f + 1, a, [], h => ⟨_, rfl⟩
  | f + 1, a, c :: r, h => by
    rw [toks_cons]
    simp only [List.length_cons] at h
    split
    · exact ⟨_, rfl⟩
    · split
      · exact toks_some n f _ r (by omega)
      · split
        · exact ⟨_, rfl⟩
        · obtain ⟨x, hx⟩ := toks_some n f (a + wlen (c :: r)) ((c :: r).drop (wlen (c :: r))) (by simp only [List.length_drop, List.length_cons]; omega)
          rw [hx]
          exact ⟨_, rfl⟩
theorem toks_err (n : Int) : ∀ (f a : Nat) (s : Str) (e : Nat), toks n f a s = some (.error e) → e ≤ a + s.length
  | 0, _, _, _, h => by cases h
  | f + 1, a, [], e, h => by cases h
  | f + 1, a, c :: r, e, h => by
    rw [toks_cons] at h
    have hw := wlen_le (c :: r)
    simp only [List.length_cons] at hw ⊢
    split at h
    · cases h
    · split at h
      · have := toks_err n f _ r e h; omega
      · split at h
        · cases h; omega
        · simp only [Option.map_eq_some_iff] at h
          obtain ⟨y, hy, h2⟩ := h
          cases y with
          | ok l => cases h2
          | error e' =>
            cases h2
            have := toks_err n f _ _ _ hy
            simp only [List.length_drop, List.length_cons] at this
            omega
inductive Rx where
  | mk (op : Int) (nm : Str) (ks : List Rx)
def Rx.op : Rx → Int | .mk op _ _ => op
def Rx.nm : Rx → Str | .mk _ nm _ => nm
def Rx.ks : Rx → List Rx | .mk _ _ ks => ks
instance : Inhabited Rx := ⟨.mk 0 [] []⟩
theorem Rx.ind {Q : Rx → Prop} (h : ∀ r, (∀ k, k ∈ r.ks → Q k) → Q r) : ∀ r, Q r
  | .mk op nm ks => h _ fun k hk => Rx.ind h k
termination_by r => sizeOf r
decreasing_by
  have := List.sizeOf_lt_of_mem hk
  simp only [Rx.ks] at this
  simp only [Rx.mk.sizeOf_spec]
  omega
mutual
def Rx.size : Rx → Nat | .mk _ _ ks => Rx.sizes ks + 1
def Rx.sizes : List Rx → Nat | [] => 0 | k :: ks => k.size + Rx.sizes ks
end
mutual
def Rx.depth : Rx → Nat | .mk _ _ ks => Rx.depths ks + 1
def Rx.depths : List Rx → Nat | [] => 0 | k :: ks => max k.depth (Rx.depths ks)
end
def hasOp (op : Int) (ks : List Rx) : Bool := ks.any fun k => k.op == op
def nodeOk (op : Int) (nm : Str) (ks : List Rx) : Bool :=
  if op = 1 ∨ op = 2 then isName nm && ks.length == 0
  else if op = 3 then nm == [] && ks.length == 0
  else if op = 4 then nm == [] && ks.length != 1 && !hasOp 4 ks
  else if op = 5 then nm == [] && decide (2 ≤ ks.length) && !hasOp 5 ks
  else if op = 6 ∨ op = 7 ∨ op = 8 then nm == [] && ks.length == 1
  else false
mutual
def Rx.right : Rx → Bool | .mk op nm ks => nodeOk op nm ks && Rx.rights ks
def Rx.rights : List Rx → Bool | [] => true | k :: ks => k.right && Rx.rights ks
end
mutual
def Rx.Ok : Rx → Prop | .mk _ nm ks => nm.length ≤ 100000000 ∧ ks.length ≤ 100000000 ∧ Rx.Oks ks
def Rx.Oks : List Rx → Prop | [] => True | k :: ks => k.Ok ∧ Rx.Oks ks
end
theorem Rx.size_eq (r : Rx) : r.size = Rx.sizes r.ks + 1 := by cases r; rfl
theorem Rx.depth_eq (r : Rx) : r.depth = Rx.depths r.ks + 1 := by cases r; rfl
theorem Rx.right_eq (r : Rx) : r.right = (nodeOk r.op r.nm r.ks && Rx.rights r.ks) := by cases r; rfl
theorem Rx.Ok_eq (r : Rx) : r.Ok ↔ r.nm.length ≤ 100000000 ∧ r.ks.length ≤ 100000000 ∧ Rx.Oks r.ks := by cases r; rfl
theorem Rx.Oks_mem : ∀ {ks : List Rx}, Rx.Oks ks → ∀ k, k ∈ ks → k.Ok
  | k :: ks, h, x, hx => by
    rcases List.mem_cons.1 hx with rfl | hx
    · exact h.1
    · exact Rx.Oks_mem h.2 x hx
theorem Rx.Ok.kid {r : Rx} (h : r.Ok) {k : Rx} (hk : k ∈ r.ks) : k.Ok := Rx.Oks_mem ((Rx.Ok_eq r).1 h).2.2 k hk
theorem Rx.Ok.len {r : Rx} (h : r.Ok) : r.ks.length ≤ 100000000 := ((Rx.Ok_eq r).1 h).2.1
theorem Rx.Ok.nml {r : Rx} (h : r.Ok) : r.nm.length ≤ 100000000 := ((Rx.Ok_eq r).1 h).1
mutual
theorem Rx.depth_le : ∀ r : Rx, r.depth ≤ r.size
  | .mk _ _ ks => by have := Rx.depths_le ks; simp only [Rx.depth, Rx.size]; omega
theorem Rx.depths_le : ∀ ks : List Rx, Rx.depths ks ≤ Rx.sizes ks
  | [] => Nat.le_refl _
  | k :: ks => by have := Rx.depth_le k; have := Rx.depths_le ks; simp only [Rx.depths, Rx.sizes]; omega
end
theorem Rx.size_pos (r : Rx) : 1 ≤ r.size := by rw [Rx.size_eq]; omega
theorem Rx.depth_pos (r : Rx) : 1 ≤ r.depth := by rw [Rx.depth_eq]; omega
def Rx.check (r : Rx) : Int := if 1000 < r.size then 3 else if 100 < r.depth then 91 else if r.right then 0 else 92

def splitNL : Str → Str × List Str
  | [] => ([], [])
  | c :: r => if c.toNat = 10 then ([], (splitNL r).1 :: (splitNL r).2) else (c :: (splitNL r).1, (splitNL r).2)
def putRow (l : List Word) (x : Except (Int × Int) (List (List Word))) : Except (Int × Int) (List (List Word)) :=
  x.map fun ls => match l with | [] => ls | _ :: _ => l :: ls
def rowsOf : Int → List Str → Option (Except (Int × Int) (List (List Word)))
  | _, [] => some (.ok [])
  | n, s :: r => match toks n (s.length + 1) 0 s with
    | none => none
    | some (.error a) => some (.error (n, (a : Int) + 1))
    | some (.ok l) => (rowsOf (n + 1) r).map (putRow l)
theorem rowsOf_some : ∀ (l : List Str) (n : Int), ∃ x, rowsOf n l = some x
  | [], n => ⟨_, rfl⟩
  | s :: r, n => by
    obtain ⟨y, hy⟩ := toks_some n (s.length + 1) 0 s (by omega)
    obtain ⟨z, hz⟩ := rowsOf_some r (n + 1)
    unfold rowsOf
    rw [hy, hz]
    cases y <;> exact ⟨_, rfl⟩
def wordAt (l : List Word) (i : Nat) : Str := match l[i]? with | some w => w.t | none => []
def flat (op : Int) : List Rx → List Rx
  | [] => []
  | r :: rs => (if r.op = op then r.ks else [r]) ++ flat op rs
def join (op : Int) (l : List Rx) : Rx :=
  match l with
  | [r] => r
  | l => match flat op l with
    | [r] => r
    | ks => .mk op [] ks
abbrev PR := Option (Except (Nat × Int) (Rx × Nat))
def PR.bind (x : PR) (f : Rx → Nat → PR) : PR :=
  match x with
  | none => none
  | some (.error e) => some (.error e)
  | some (.ok (r, i)) => f r i
def opOf (w : Str) : Int := if w = [42] then 6 else if w = [43] then 7 else if w = [63] then 8 else 0
def starts (w : Str) : Bool := w == [36] || w == [46] || w == [40] || isName w
mutual
def pAlt (l : List Word) : Nat → Nat → Nat → PR
  | 0, _, _ => none
  | n + 1, o, i => PR.bind (pSeq l n o i) fun r i => pAlts l n o i [r]
def pAlts (l : List Word) : Nat → Nat → Nat → List Rx → PR
  | 0, _, _, _ => none
  | n + 1, o, i, acc => if wordAt l i = [124] then PR.bind (pSeq l n o (i + 1)) fun r i => pAlts l n o i (acc ++ [r]) else some (.ok (join 5 acc, i))
def pSeq (l : List Word) : Nat → Nat → Nat → PR
  | 0, _, _ => none
  | n + 1, o, i => PR.bind (pRep l n o i) fun r i => pSeqs l n o i [r]
def pSeqs (l : List Word) : Nat → Nat → Nat → List Rx → PR
  | 0, _, _, _ => none
  | n + 1, o, i, acc => if starts (wordAt l i) then PR.bind (pRep l n o i) fun r i => pSeqs l n o i (acc ++ [r]) else some (.ok (join 4 acc, i))
def pRep (l : List Word) : Nat → Nat → Nat → PR
  | 0, _, _ => none
  | n + 1, o, i => PR.bind (pAtom l n o i) fun r i => pReps l n i r
def pReps (l : List Word) : Nat → Nat → Rx → PR
  | 0, _, _ => none
  | n + 1, i, r => if opOf (wordAt l i) = 0 then some (.ok (r, i)) else pReps l n (i + 1) (.mk (opOf (wordAt l i)) [] [r])
def pAtom (l : List Word) : Nat → Nat → Nat → PR
  | 0, _, _ => none
  | n + 1, o, i =>
    if wordAt l i = [46] then some (.ok (.mk 3 [] [], i + 1))
    else if wordAt l i = [36] then
      (if isName (wordAt l (i + 1)) then some (.ok (.mk 2 (wordAt l (i + 1)) [], i + 2)) else some (.error (i + 1, 90)))
    else if wordAt l i = [40] then
      (if 50 ≤ o then some (.error (i, 91))
       else if wordAt l (i + 1) = [41] then some (.ok (.mk 4 [] [], i + 2))
       else PR.bind (pAlt l n (o + 1) (i + 1)) fun r j => if wordAt l j = [41] then some (.ok (r, j + 1)) else some (.error (j, 90)))
    else if isName (wordAt l i) then some (.ok (.mk 1 (wordAt l i) [], i + 1))
    else some (.error (i, 90))
end
end Go.Vm.P

/- Plain facts of the reader of expressions: it comes to an end; how great what it reads is. -/
namespace Go.Vm.P
mutual
def Rx.Nm : Rx → Prop | .mk op nm ks => nm.length ≤ 100000000 ∧ (op = 5 → 2 ≤ ks.length) ∧ Rx.Nms ks
def Rx.Nms : List Rx → Prop | [] => True | k :: ks => k.Nm ∧ Rx.Nms ks
end
theorem Rx.len_sizes : ∀ ks : List Rx, ks.length ≤ Rx.sizes ks
  | [] => Nat.le_refl _
  | k :: ks => by have := Rx.len_sizes ks; have := Rx.size_pos k; simp only [List.length_cons, Rx.sizes]; omega
mutual
theorem Rx.Nm.ok : ∀ r : Rx, r.Nm → r.size ≤ 100000000 → r.Ok
  | .mk op nm ks, h, hs => by
    simp only [Rx.size] at hs
    have := Rx.len_sizes ks
    exact ⟨h.1, by omega, Rx.Nms.ok ks h.2.2 (by omega)⟩
theorem Rx.Nms.ok : ∀ ks : List Rx, Rx.Nms ks → Rx.sizes ks ≤ 100000000 → Rx.Oks ks
  | [], _, _ => trivial
  | k :: ks, h, hs => by
    simp only [Rx.sizes] at hs
    exact ⟨Rx.Nm.ok k h.1 (by omega), Rx.Nms.ok ks h.2 (by omega)⟩
end
theorem Rx.sizes_append : ∀ a b : List Rx, Rx.sizes (a ++ b) = Rx.sizes a + Rx.sizes b
  | [], b => by simp [Rx.sizes]
  | k :: a, b => by simp only [List.cons_append, Rx.sizes, Rx.sizes_append a b]; omega
theorem Rx.Nms_append : ∀ a b : List Rx, Rx.Nms (a ++ b) ↔ Rx.Nms a ∧ Rx.Nms b
  | [], b => by simp [Rx.Nms]
  | k :: a, b => by simp only [List.cons_append, Rx.Nms, Rx.Nms_append a b, and_assoc]
theorem flat_sizes (op : Int) : ∀ l, Rx.sizes (flat op l) ≤ Rx.sizes l
  | [] => Nat.le_refl _
  | r :: l => by
    have := flat_sizes op l
    simp only [flat, Rx.sizes_append, Rx.sizes]
    split
    · have := Rx.size_eq r; omega
    · simp only [Rx.sizes]; omega
theorem Rx.Nm_ks {r : Rx} (h : r.Nm) : Rx.Nms r.ks := by cases r; exact h.2.2
theorem Rx.Nm_alt {r : Rx} (h : r.Nm) : r.op = 5 → 2 ≤ r.ks.length := by cases r; exact h.2.1
theorem flat_Nms (op : Int) : ∀ l, Rx.Nms l → Rx.Nms (flat op l)
  | [], _ => trivial
  | r :: l, h => by
    simp only [flat, Rx.Nms_append]
    refine ⟨?_, flat_Nms op l h.2⟩
    split
    · exact Rx.Nm_ks h.1
    · exact ⟨h.1, trivial⟩
theorem flat_long : ∀ l : List Rx, Rx.Nms l → l.length ≤ (flat 5 l).length
  | [], _ => Nat.le_refl _
  | r :: l, h => by
    have := flat_long l h.2
    simp only [flat, List.length_append, List.length_cons]
    split
    · have := Rx.Nm_alt h.1 (by assumption); omega
    · simp only [List.length_cons, List.length_nil]; omega
theorem two_long {l : List Rx} (h : l ≠ []) (hne : ∀ r, l ≠ [r]) : 2 ≤ l.length := by
  match l, h, hne with
  | [r], _, hne => exact absurd rfl (hne r)
  | _ :: _ :: _, _, _ => simp
theorem join_size {op : Int} {l : List Rx} (h : l ≠ []) : (join op l).size + 1 ≤ Rx.sizes l + l.length := by
  unfold join
  split
  · simp [Rx.sizes]
  · rename_i hne
    have h2 : 2 ≤ l.length := by
      match l, h, hne with
      | [r], _, hne => exact absurd rfl (hne r)
      | _ :: _ :: _, _, _ => simp
    have := flat_sizes op l
    split
    · rename_i r hr
      rw [hr] at this
      simp only [Rx.sizes] at this
      omega
    · simp only [Rx.size]; omega
theorem join_Nm {op : Int} {l : List Rx} (hne : l ≠ []) (h : Rx.Nms l) : (join op l).Nm := by
  unfold join
  split
  · exact h.1
  · rename_i hone
    have := flat_Nms op l h
    split
    · rename_i r hr
      rw [hr] at this
      exact this.1
    · refine ⟨by simp, fun e => ?_, this⟩
      subst e
      have h1 := flat_long l h
      have h2 := two_long hne (fun r e => hone r e)
      omega
structure Good (L i : Nat) (r : Rx) (j : Nat) : Prop where
  lt : i < j
  le : j ≤ L
  size : r.size + 1 ≤ 2 * (j - i)
  nm : r.Nm
def Fact (L i : Nat) : Except (Nat × Int) (Rx × Nat) → Prop
  | .ok (r, j) => Good L i r j
  | .error (a, c) => i ≤ a ∧ a ≤ L ∧ (c = 90 ∨ c = 91)
theorem PR.bind_some {x : PR} {f : Rx → Nat → PR} {y : Except (Nat × Int) (Rx × Nat)} (h : PR.bind x f = some y) : (∃ e, x = some (.error e) ∧ y = .error e) ∨ ∃ r i, x = some (.ok (r, i)) ∧ f r i = some y := by
  match x, h with
  | some (.error e), h => simp only [PR.bind, Option.some.injEq] at h; exact .inl ⟨e, rfl, h.symm⟩
  | some (.ok (r, i)), h => exact .inr ⟨r, i, rfl, h⟩
theorem qb3 {l : List Word} {i : Nat} (h : wordAt l i ≠ []) : i < l.length := by
  unfold wordAt at h
  cases hi : l[i]? with
  | none => rw [hi] at h; exact absurd rfl h
  | some w => exact (List.getElem?_eq_some_iff.1 hi).1
theorem wordAt_short {l : List Word} (hw : ∀ w, w ∈ l → w.t.length ≤ 100000000) (i : Nat) : (wordAt l i).length ≤ 100000000 := by
  unfold wordAt
  cases hi : l[i]? with
  | none => simp
  | some w => exact hw w (List.mem_of_getElem? hi)
theorem isName_ne {s : Str} (h : isName s = true) : s ≠ [] := by rintro rfl; cases h
theorem starts_ne {s : Str} (h : starts s = true) : s ≠ [] := by rintro rfl; cases h
theorem opOf_ne {s : Str} (h : ¬ opOf s = 0) : s ≠ [] := by rintro rfl; exact h rfl
theorem opOf_5 (s : Str) : ¬ opOf s = 5 := by
  unfold opOf
  split
  · decide
  · split
    · decide
    · split <;> decide
section
variable {l : List Word} (hw : ∀ w, w ∈ l → w.t.length ≤ 100000000)
include hw
structure Facts (l : List Word) (n : Nat) : Prop where
  alt : ∀ o i x, i ≤ l.length → pAlt l n o i = some x → Fact l.length i x
  alts : ∀ o i i0 acc x, i0 < i → i ≤ l.length → acc ≠ [] → Rx.sizes acc + acc.length ≤ 2 * (i - i0) → Rx.Nms acc → pAlts l n o i acc = some x → Fact l.length i0 x
  seq : ∀ o i x, i ≤ l.length → pSeq l n o i = some x → Fact l.length i x
  seqs : ∀ o i i0 acc x, i0 < i → i ≤ l.length → acc ≠ [] → Rx.sizes acc + acc.length ≤ 2 * (i - i0) → Rx.Nms acc → pSeqs l n o i acc = some x → Fact l.length i0 x
  rep : ∀ o i x, i ≤ l.length → pRep l n o i = some x → Fact l.length i x
  reps : ∀ i i0 r x, i0 < i → i ≤ l.length → r.size + 1 ≤ 2 * (i - i0) → r.Nm → pReps l n i r = some x → Fact l.length i0 x
  atom : ∀ o i x, i ≤ l.length → pAtom l n o i = some x → Fact l.length i x
theorem facts : ∀ n, Facts l n
  | 0 => ⟨fun _ _ _ _ h => by simp [pAlt] at h, fun _ _ _ _ _ _ _ _ _ _ h => by simp [pAlts] at h, fun _ _ _ _ h => by simp [pSeq] at h, fun _ _ _ _ _ _ _ _ _ _ h => by simp [pSeqs] at h, fun _ _ _ _ h => by simp [pRep] at h,
      fun _ _ _ _ _ _ _ _ h => by simp [pReps] at h, fun _ _ _ _ h => by simp [pAtom] at h⟩
  | n + 1 => by
    have ih := facts n
    refine ⟨?_, ?_, ?_, ?_, ?_, ?_, ?_⟩
    · intro o i x hi h
      simp only [pAlt] at h
      rcases PR.bind_some h with ⟨e, h1, rfl⟩ | ⟨r, j, h1, h2⟩
      · exact ih.seq o i _ hi h1
      · have g : Good l.length i r j := ih.seq o i _ hi h1
        exact ih.alts o j i [r] x g.lt g.le (by simp) (by have := g.size; simp [Rx.sizes]; omega) ⟨g.nm, trivial⟩ h2
    · intro o i i0 acc x h0 hi hne hs hnm h
      simp only [pAlts] at h
      split at h
      · rename_i hp
        have hlt := qb3 (l := l) (i := i) (by rw [hp]; simp)
        rcases PR.bind_some h with ⟨e, h1, rfl⟩ | ⟨r, j, h1, h2⟩
        · have := ih.seq o (i + 1) _ (by omega) h1
          exact ⟨by have := this.1; omega, this.2⟩
        · have g : Good l.length (i + 1) r j := ih.seq o (i + 1) _ (by omega) h1
          have g1 := g.lt; have g2 := g.size
          exact ih.alts o j i0 (acc ++ [r]) x (by omega) g.le (by simp) (by simp [Rx.sizes_append, Rx.sizes]; omega) ((Rx.Nms_append _ _).2 ⟨hnm, g.nm, trivial⟩) h2
      · cases h
        exact ⟨h0, hi, by have := join_size (op := 5) hne; omega, join_Nm hne hnm⟩
    · intro o i x hi h
      simp only [pSeq] at h
      rcases PR.bind_some h with ⟨e, h1, rfl⟩ | ⟨r, j, h1, h2⟩
      · exact ih.rep o i _ hi h1
      · have g : Good l.length i r j := ih.rep o i _ hi h1
        exact ih.seqs o j i [r] x g.lt g.le (by simp) (by have := g.size; simp [Rx.sizes]; omega) ⟨g.nm, trivial⟩ h2
    · intro o i i0 acc x h0 hi hne hs hnm h
      simp only [pSeqs] at h
      split at h
      · rcases PR.bind_some h with ⟨e, h1, rfl⟩ | ⟨r, j, h1, h2⟩
        · have := ih.rep o i _ hi h1
          exact ⟨by have := this.1; omega, this.2⟩
        · have g : Good l.length i r j := ih.rep o i _ hi h1
          have g1 := g.lt; have g2 := g.size
          exact ih.seqs o j i0 (acc ++ [r]) x (by omega) g.le (by simp) (by simp [Rx.sizes_append, Rx.sizes]; omega) ((Rx.Nms_append _ _).2 ⟨hnm, g.nm, trivial⟩) h2
      · cases h
        exact ⟨h0, hi, by have := join_size (op := 4) hne; omega, join_Nm hne hnm⟩
    · intro o i x hi h
      simp only [pRep] at h
      rcases PR.bind_some h with ⟨e, h1, rfl⟩ | ⟨r, j, h1, h2⟩
      · exact ih.atom o i _ hi h1
      · have g : Good l.length i r j := ih.atom o i _ hi h1
        exact ih.reps j i r x g.lt g.le g.size g.nm h2
    · intro i i0 r x h0 hi hs hnm h
      simp only [pReps] at h
      split at h
      · cases h
        exact ⟨h0, hi, hs, hnm⟩
      · rename_i hp
        have hlt := qb3 (l := l) (i := i) (opOf_ne hp)
        exact ih.reps (i + 1) i0 _ x (by omega) (by omega) (by simp only [Rx.size, Rx.sizes]; omega) (show Rx.Nm (.mk (opOf (wordAt l i)) [] [r]) from ⟨by simp, fun e => absurd e (opOf_5 _), hnm, trivial⟩) h
    · intro o i x hi h
      simp only [pAtom] at h
      split at h
      · rename_i hp
        have hlt := qb3 (l := l) (i := i) (by rw [hp]; simp)
        cases h
        exact ⟨by omega, by omega, by simp only [Rx.size, Rx.sizes]; omega, ⟨by simp, fun e => absurd e (by decide), trivial⟩⟩
      · split at h
        · rename_i hp
          have hlt := qb3 (l := l) (i := i) (by rw [hp]; simp)
          split at h
          · rename_i hn
            have hlt2 := qb3 (l := l) (i := i + 1) (isName_ne hn)
            cases h
            exact ⟨by omega, by omega, by simp only [Rx.size, Rx.sizes]; omega, ⟨wordAt_short hw _, fun e => absurd e (by decide), trivial⟩⟩
          · cases h
            exact ⟨by omega, by omega, .inl rfl⟩
        · split at h
          · rename_i hp
            have hlt := qb3 (l := l) (i := i) (by rw [hp]; simp)
            split at h
            · cases h
              exact ⟨by omega, by omega, .inr rfl⟩
            · split at h
              · rename_i hp2
                have hlt2 := qb3 (l := l) (i := i + 1) (by rw [hp2]; simp)
                cases h
                exact ⟨by omega, by omega, by simp only [Rx.size, Rx.sizes]; omega, ⟨by simp, fun e => absurd e (by decide), trivial⟩⟩
              · rcases PR.bind_some h with ⟨e, h1, rfl⟩ | ⟨r, j, h1, h2⟩
                · have := ih.alt (o + 1) (i + 1) _ (by omega) h1
                  exact ⟨by have := this.1; omega, this.2⟩
                · have g : Good l.length (i + 1) r j := ih.alt (o + 1) (i + 1) _ (by omega) h1
                  have g1 := g.lt; have g2 := g.size; have g3 := g.le
                  split at h2
                  · rename_i hp3
                    have hlt3 := qb3 (l := l) (i := j) (by rw [hp3]; simp)
                    cases h2
                    exact ⟨by omega, by omega, by omega, g.nm⟩
                  · cases h2
                    exact ⟨by omega, by omega, .inl rfl⟩
          · split at h
            · rename_i hn
              have hlt := qb3 (l := l) (i := i) (isName_ne hn)
              cases h
              exact ⟨by omega, by omega, by simp only [Rx.size, Rx.sizes]; omega, ⟨wordAt_short hw _, fun e => absurd e (by decide), trivial⟩⟩
            · cases h
              exact ⟨by omega, by omega, .inl rfl⟩
structure Ends (l : List Word) (n : Nat) : Prop where
  alt : ∀ o i, i ≤ l.length → 8 * (l.length - i) + 4 ≤ n → ∃ x, pAlt l n o i = some x
  alts : ∀ o i acc, i ≤ l.length → 8 * (l.length - i) + 1 ≤ n → ∃ x, pAlts l n o i acc = some x
  seq : ∀ o i, i ≤ l.length → 8 * (l.length - i) + 3 ≤ n → ∃ x, pSeq l n o i = some x
  seqs : ∀ o i acc, i ≤ l.length → 8 * (l.length - i) + 3 ≤ n → ∃ x, pSeqs l n o i acc = some x
  rep : ∀ o i, i ≤ l.length → 8 * (l.length - i) + 2 ≤ n → ∃ x, pRep l n o i = some x
  reps : ∀ i r, i ≤ l.length → (l.length - i) + 1 ≤ n → ∃ x, pReps l n i r = some x
  atom : ∀ o i, i ≤ l.length → 8 * (l.length - i) + 1 ≤ n → ∃ x, pAtom l n o i = some x
omit hw in
theorem bind_ends {x : PR} {f : Rx → Nat → PR} {y : Except (Nat × Int) (Rx × Nat)} (h : x = some y) (k : ∀ r j, y = .ok (r, j) → ∃ z, f r j = some z) : ∃ z, PR.bind x f = some z := by
  subst h
  match y, k with
  | .error e, _ => exact ⟨_, rfl⟩
  | .ok (r, j), k => exact k r j rfl
theorem ends : ∀ n, Ends l n
  | 0 => ⟨fun _ _ _ h => by omega, fun _ _ _ _ h => by omega, fun _ _ _ h => by omega, fun _ _ _ _ h => by omega, fun _ _ _ h => by omega, fun _ _ _ h => by omega, fun _ _ _ h => by omega⟩
  | n + 1 => by
    have ih := ends n
    have fc := facts hw n
    refine ⟨?_, ?_, ?_, ?_, ?_, ?_, ?_⟩
    · intro o i hi h
      simp only [pAlt]
      obtain ⟨y, hy⟩ := ih.seq o i hi (by omega)
      refine bind_ends hy fun r j e => ?_
      have g : Good l.length i r j := by have := fc.seq o i _ hi hy; rwa [e] at this
      have := g.lt; have := g.le
      exact ih.alts o j [r] g.le (by omega)
    · intro o i acc hi h
      simp only [pAlts]
      split
      · rename_i hp
        have hlt := qb3 (l := l) (i := i) (by rw [hp]; simp)
        obtain ⟨y, hy⟩ := ih.seq o (i + 1) (by omega) (by omega)
        refine bind_ends hy fun r j e => ?_
        have g : Good l.length (i + 1) r j := by have := fc.seq o (i + 1) _ (by omega) hy; rwa [e] at this
        have := g.lt; have := g.le
        exact ih.alts o j (acc ++ [r]) g.le (by omega)
      · exact ⟨_, rfl⟩
    · intro o i hi h
      simp only [pSeq]
      obtain ⟨y, hy⟩ := ih.rep o i hi (by omega)
      refine bind_ends hy fun r j e => ?_
      have g : Good l.length i r j := by have := fc.rep o i _ hi hy; rwa [e] at this
      have := g.lt; have := g.le
      exact ih.seqs o j [r] g.le (by omega)
    · intro o i acc hi h
      simp only [pSeqs]
      split
      · rename_i hp
        have hlt := qb3 (l := l) (i := i) (starts_ne hp)
        obtain ⟨y, hy⟩ := ih.rep o i hi (by omega)
        refine bind_ends hy fun r j e => ?_
        have g : Good l.length i r j := by have := fc.rep o i _ hi hy; rwa [e] at this
        have := g.lt; have := g.le
        exact ih.seqs o j (acc ++ [r]) g.le (by omega)
      · exact ⟨_, rfl⟩
    · intro o i hi h
      simp only [pRep]
      obtain ⟨y, hy⟩ := ih.atom o i hi (by omega)
      refine bind_ends hy fun r j e => ?_
      have g : Good l.length i r j := by have := fc.atom o i _ hi hy; rwa [e] at this
      have := g.lt; have := g.le
      exact ih.reps j r g.le (by omega)
    · intro i r hi h
      simp only [pReps]
      split
      · exact ⟨_, rfl⟩
      · rename_i hp
        have hlt := qb3 (l := l) (i := i) (opOf_ne hp)
        exact ih.reps (i + 1) _ (by omega) (by omega)
    · intro o i hi h
      simp only [pAtom]
      split
      · exact ⟨_, rfl⟩
      · split
        · split <;> exact ⟨_, rfl⟩
        · split
          · rename_i hp
            have hlt := qb3 (l := l) (i := i) (by rw [hp]; simp)
            split
            · exact ⟨_, rfl⟩
            · split
              · exact ⟨_, rfl⟩
              · obtain ⟨y, hy⟩ := ih.alt (o + 1) (i + 1) (by omega) (by omega)
                refine bind_ends hy fun r j e => ?_
                split <;> exact ⟨_, rfl⟩
          · split <;> exact ⟨_, rfl⟩
end
end Go.Vm.P
namespace Go.Vm.P
def Rx.no : Rx := .mk 0 [] []
def readP (l : List Word) : Rx × Nat × Int :=
  match pAlt l (8 * l.length + 4) 0 0 with
  | none => (Rx.no, 0, 0)
  | some (.error (a, c)) => (Rx.no, a, c)
  | some (.ok (r, j)) => if j < l.length then (Rx.no, j, 90) else if r.check = 0 then (r, 0, 0) else (Rx.no, 0, r.check)
end Go.Vm.P

/- The words of a text: how many, where; what a text is parsed as. -/
namespace Go.Vm.P
theorem toks_ok (n : Int) : ∀ (f a : Nat) (s : Str) (l : List Word), toks n f a s = some (.ok l) →
    l.length ≤ s.length ∧ ∀ w, w ∈ l → w.line = n ∧ (0 ≤ w.col ∧ w.col + w.t.length ≤ a + s.length + 1 ∧ w.t.length ≤ s.length ∧ w.t ≠ [])
  | 0, _, _, _, h => by cases h
  | f + 1, a, [], l, h => by cases h; simp
  | f + 1, a, c :: r, l, h => by
    rw [toks_cons] at h
    have hw := wlen_le (c :: r)
    simp only [List.length_cons] at hw ⊢
    split at h
    · cases h; simp
    · split at h
      · obtain ⟨h1, h2⟩ := toks_ok n f _ r l h
        refine ⟨by omega, fun w hm => ?_⟩
        obtain ⟨g1, g2, g3, g4, g5⟩ := h2 w hm
        exact ⟨g1, g2, by omega, by omega, g5⟩
      · split at h
        · cases h
        · rename_i hz
          simp only [Option.map_eq_some_iff] at h
          obtain ⟨y, hy, h2⟩ := h
          cases y with
          | error e' => cases h2
          | ok l' =>
            cases h2
            obtain ⟨h1, h3⟩ := toks_ok n f _ _ l' hy
            simp only [List.length_drop, List.length_cons] at h1 h3
            refine ⟨by simp only [List.length_cons]; omega, fun w hm => ?_⟩
            rcases List.mem_cons.1 hm with rfl | hm
            · refine ⟨rfl, ?_, ?_, ?_, ?_⟩
              · simp only; omega
              · simp only [List.length_take, List.length_cons]; omega
              · simp only [List.length_take, List.length_cons]; omega
              · intro e
                have := congrArg List.length e
                simp only [List.length_take, List.length_cons, List.length_nil] at this
                omega
            · obtain ⟨g1, g2, g3, g4, g5⟩ := h3 w hm
              exact ⟨g1, g2, by omega, by omega, g5⟩
def lens : List Str → Nat | [] => 0 | s :: r => s.length + lens r
theorem splitNL_lens : ∀ s : Str, (splitNL s).1.length + lens (splitNL s).2 ≤ s.length ∧ (splitNL s).2.length ≤ s.length
  | [] => by simp [splitNL, lens]
  | c :: r => by
    have := splitNL_lens r
    unfold splitNL
    split
    · simp only [lens, List.length_cons, List.length_nil]; omega
    · simp only [List.length_cons]; omega
def WordOk (M : Nat) (w : Word) : Prop := (0 ≤ w.line ∧ w.line ≤ M) ∧ 0 ≤ w.col ∧ w.col + w.t.length ≤ M ∧ w.t.length ≤ M ∧ w.t ≠ []
theorem rowsOf_ok : ∀ (ls : List Str) (n : Int) (rows : List (List Word)), rowsOf n ls = some (.ok rows) → ∀ M : Nat, lens ls + 1 ≤ M → 0 ≤ n → n + ls.length ≤ M →
    rows.flatten.length ≤ lens ls ∧ rows.length ≤ ls.length ∧ ∀ w, w ∈ rows.flatten → WordOk M w
  | [], n, rows, h, M, hM, h0, hn => by cases h; simp [lens]
  | s :: r, n, rows, h, M, hM, h0, hn => by
    unfold rowsOf at h
    simp only [lens, List.length_cons] at hM hn ⊢
    split at h
    · cases h
    · cases h
    · rename_i l hl
      simp only [Option.map_eq_some_iff] at h
      obtain ⟨y, hy, h2⟩ := h
      obtain ⟨k1, k2⟩ := toks_ok n _ _ _ _ hl
      cases y with
      | error e => cases h2
      | ok ls =>
        obtain ⟨g1, g2, g3⟩ := rowsOf_ok r (n + 1) ls hy M (by omega) (by omega) (by omega)
        have hk : ∀ w, w ∈ l → WordOk M w := fun w hm => by
          obtain ⟨a1, a2, a3, a4, a5⟩ := k2 w hm
          exact ⟨by omega, by omega, by omega, by omega, a5⟩
        simp only [putRow, Except.map, Except.ok.injEq] at h2
        subst h2
        cases l with
        | nil =>
          dsimp only
          exact ⟨by simp only [List.length_nil] at k1; omega, by omega, g3⟩
        | cons w0 l0 =>
          dsimp only
          refine ⟨by simp only [List.flatten_cons, List.length_append]; omega, by simp only [List.length_cons]; omega, fun w hm => ?_⟩
          rw [List.flatten_cons] at hm
          rcases List.mem_append.1 hm with hm | hm
          · exact hk w hm
          · exact g3 w hm
def textP (s : Str) (x : Except (Int × Int) (List (List Word))) : Prop := rowsOf 1 ((splitNL s).1 :: (splitNL s).2) = some x
theorem textP_ok {s : Str} {rows : List (List Word)} (h : textP s (.ok rows)) : rows.flatten.length ≤ s.length ∧ rows.length ≤ s.length + 1 ∧ ∀ w, w ∈ rows.flatten → WordOk (s.length + 2) w := by
  have h1 := splitNL_lens s
  have := rowsOf_ok _ _ _ h (s.length + 2) (by simp only [lens]; omega) (by omega) (by simp only [List.length_cons]; omega)
  simp only [lens, List.length_cons] at this
  exact ⟨by omega, by omega, this.2.2⟩
theorem textP_some (s : Str) : ∃ x, textP s x := rowsOf_some _ _
mutual
def Rx.same : Rx → Rx → Bool | .mk o n ks, r => decide (o = r.op) && decide (n = r.nm) && Rx.sames ks r.ks
def Rx.sames : List Rx → List Rx → Bool
  | [], [] => true
  | k :: ks, k' :: ks' => k.same k' && Rx.sames ks ks'
  | _, _ => false
end
theorem Rx.same_eq (a b : Rx) : a.same b = (decide (a.op = b.op) && decide (a.nm = b.nm) && Rx.sames a.ks b.ks) := by cases a; rfl
theorem Rx.sames_len : ∀ {a b : List Rx}, a.length ≠ b.length → Rx.sames a b = false
  | [], [], h => absurd rfl h
  | [], _ :: _, _ => by unfold Rx.sames; rfl
  | _ :: _, [], _ => by unfold Rx.sames; rfl
  | a :: l, b :: m, h => by
    unfold Rx.sames
    rw [Rx.sames_len (a := l) (b := m) (fun e => h (by simp [e]))]
    simp
mutual
theorem Rx.same_refl : ∀ r : Rx, r.same r = true
  | .mk o n ks => by
    unfold Rx.same
    have := Rx.sames_refl ks
    simp [Rx.op, Rx.nm, Rx.ks, this]
theorem Rx.sames_refl : ∀ l : List Rx, Rx.sames l l = true
  | [] => by unfold Rx.sames; rfl
  | k :: ks => by
    unfold Rx.sames
    rw [Rx.same_refl k, Rx.sames_refl ks]; rfl
end
mutual
theorem Rx.same_iff : ∀ a b : Rx, a.same b = true → a = b
  | .mk o n ks, .mk o' n' ks', h => by
    unfold Rx.same at h
    simp only [Rx.op, Rx.nm, Rx.ks, Bool.and_eq_true, decide_eq_true_eq] at h
    rw [of_decide_eq_true h.1.1, of_decide_eq_true h.1.2, Rx.sames_iff ks ks' h.2]
theorem Rx.sames_iff : ∀ a b : List Rx, Rx.sames a b = true → a = b
  | [], [], _ => rfl
  | [], _ :: _, h => by unfold Rx.sames at h; cases h
  | _ :: _, [], h => by unfold Rx.sames at h; cases h
  | a :: l, b :: m, h => by
    unfold Rx.sames at h
    simp only [Bool.and_eq_true] at h
    rw [Rx.same_iff a b h.1, Rx.sames_iff l m h.2]
end
end Go.Vm.P

/- Invariants: what a line of words is read as; no program in sight. -/
namespace Go.Vm.P
structure Iv where
  nm : Str
  pk : Str
  ing : List Str
  hops : Int
  cmp : Int
  cnt : Int
  path : Rx
def cubeB (c : UInt8) : Bool := decide (c.toNat = 48 ∨ c.toNat = 49 ∨ c.toNat = 120)
def isCube (s : Str) : Bool := s.all cubeB && decide (s ≠ []) && decide (s.length ≤ 128)
def digs : Str → Int → Int
  | [], n => n
  | c :: r, n => digs r (n * 10 + ((c.toNat : Int) - 48))
def numP (s : Str) : Option Int :=
  if s = [] ∨ 10 < s.length ∨ ((s.headD 0).toNat = 48 ∧ 1 < s.length) ∨ s.all digit = false ∨ 2147483647 < digs s 0 then none else some (digs s 0)
def putS (s : Str) : List Str → List Str
  | [] => [s]
  | x :: r => if x < s then x :: putS s r else if x = s then x :: r else s :: x :: r
def posS (s : Str) : List Str → Nat
  | [] => 0
  | x :: r => if x < s then posS s r + 1 else 0
def Rise (l : List Str) : Prop := l.Pairwise (· < ·)
theorem posS_le (s : Str) : ∀ l, posS s l ≤ l.length
  | [] => Nat.le_refl _
  | x :: r => by
    have := posS_le s r
    unfold posS
    split
    · simp only [List.length_cons]; omega
    · omega
theorem posS_lt (s : Str) : ∀ (l : List Str) (t : Nat), t < posS s l → l.getD t [] < s
  | [], t, h => by simp [posS] at h
  | x :: r, t, h => by
    unfold posS at h
    split at h
    · rename_i hx
      cases t with
      | zero => exact hx
      | succ t => exact posS_lt s r t (by omega)
    · omega
theorem posS_ge (s : Str) : ∀ (l : List Str) (t : Nat), Rise l → posS s l ≤ t → t < l.length → ¬ l.getD t [] < s
  | [], t, _, _, h => by simp at h
  | x :: r, t, hr, h, ht => by
    unfold Rise at hr
    rw [List.pairwise_cons] at hr
    unfold posS at h
    split at h
    · rename_i hx
      cases t with
      | zero => omega
      | succ t => exact posS_ge s r t hr.2 (by omega) (by simpa using ht)
    · rename_i hx
      cases t with
      | zero => exact hx
      | succ t =>
        simp only [List.length_cons] at ht
        have hm : r.getD t [] ∈ r := by
          rw [List.getD_eq_getElem?_getD, List.getElem?_eq_getElem (by omega)]
          exact List.getElem_mem _
        have := hr.1 _ hm
        intro h2
        exact hx (List.lt_trans this h2)
theorem putS_eq (s : Str) : ∀ l : List Str, putS s l = if posS s l < l.length ∧ l.getD (posS s l) [] = s then l else l.take (posS s l) ++ s :: l.drop (posS s l)
  | [] => by simp [putS, posS]
  | x :: r => by
    unfold putS posS
    split
    · rw [putS_eq s r]
      simp only [List.length_cons, Nat.add_lt_add_iff_right, List.getD_cons_succ, List.take_succ_cons, List.drop_succ_cons, List.cons_append]
      split <;> rfl
    · simp only [List.length_cons, List.getD_cons_zero, List.take_zero, List.drop_zero, List.nil_append, Nat.zero_lt_succ, true_and]
theorem putS_len (s : Str) : ∀ l : List Str, (putS s l).length ≤ l.length + 1 ∧ 1 ≤ (putS s l).length
  | [] => by simp [putS]
  | x :: r => by
    have := putS_len s r
    unfold putS
    split
    · simp only [List.length_cons]; omega
    · split <;> simp only [List.length_cons] <;> omega
theorem putS_mem (s : Str) : ∀ (l : List Str) (y : Str), y ∈ putS s l → y = s ∨ y ∈ l
  | [], y, h => by simpa [putS] using h
  | x :: r, y, h => by
    unfold putS at h
    split at h
    · rcases List.mem_cons.1 h with rfl | h
      · exact .inr (by simp)
      · rcases putS_mem s r y h with h | h
        · exact .inl h
        · exact .inr (by simp [h])
    · split at h
      · exact .inr h
      · rcases List.mem_cons.1 h with rfl | h
        · exact .inl rfl
        · exact .inr h
theorem Rise_put (s : Str) : ∀ l : List Str, Rise l → Rise (putS s l)
  | [], _ => by simp [Rise, putS]
  | x :: r, h => by
    unfold Rise at h
    rw [List.pairwise_cons] at h
    unfold putS Rise
    split
    · rename_i hx
      rw [List.pairwise_cons]
      refine ⟨fun y hy => ?_, Rise_put s r h.2⟩
      rcases putS_mem s r y hy with rfl | hy
      · exact hx
      · exact h.1 y hy
    · split
      · rw [List.pairwise_cons]; exact h
      · rename_i hx he
        have hsx : s < x := by
          rcases Std.lt_trichotomy (α := List UInt8) x s with h | h | h
          · exact absurd h hx
          · exact absurd h he
          · exact h
        rw [List.pairwise_cons]
        refine ⟨fun y hy => ?_, by rw [List.pairwise_cons]; exact h⟩
        rcases List.mem_cons.1 hy with rfl | hy
        · exact hsx
        · exact List.lt_trans hsx (h.1 y hy)
def wordW (l : List Word) (i : Nat) : Word := if i < l.length then l.getD i default else ⟨[], (l.getD (l.length - 1) default).line, (l.getD (l.length - 1) default).col + (l.getD (l.length - 1) default).t.length⟩
def mustP (l : List Word) (w : Str) (i : Nat) : Except (Nat × Int) Nat := if wordAt l i = w then .ok (i + 1) else .error (i, 120)
def nameP (l : List Word) (i : Nat) : Except (Nat × Int) (Str × Nat) := if isName (wordAt l i) = true then .ok (wordAt l i, i + 1) else .error (i, 31)
def cubeP (l : List Word) (i : Nat) : Except (Nat × Int) (Str × Nat) := if isCube (wordAt l i) = true then .ok (wordAt l i, i + 1) else .error (i, 10)
def numberP (l : List Word) (most : Int) (i : Nat) : Except (Nat × Int) (Int × Nat) :=
  match numP (wordAt l i) with
  | none => .error (i, 32)
  | some n => if most < n then .error (i, 5) else .ok (n, i + 1)
def ingP (l : List Word) : Nat → List Str → Nat → Except (Nat × Int) (List Str × Nat)
  | 0, acc, i => .ok (acc, i)
  | f + 1, acc, i =>
    if isName (wordAt l i) = true then
      if 256 < (putS (wordAt l i) acc).length then .error (i, 3)
      else if wordAt l (i + 1) = [44] then ingP l f (putS (wordAt l i) acc) (i + 2)
      else .ok (putS (wordAt l i) acc, i + 1)
    else .error (i, 31)
def signOf (w : Str) : Int := if w = [61, 61] then 1 else if w = [60, 61] then 2 else if w = [62, 61] then 3 else 0
def signP (l : List Word) (i : Nat) : Except (Nat × Int) (Int × Nat) := if signOf (wordAt l i) = 0 then .error (i, 120) else .ok (signOf (wordAt l i), i + 1)
def pathP (l : List Word) (i : Nat) : Except (Nat × Int) Rx :=
  if (readP (l.drop i)).2.2 = 0 then .ok (readP (l.drop i)).1 else .error (i + (readP (l.drop i)).2.1, (readP (l.drop i)).2.2)
abbrev wInvariant : Str := [105, 110, 118, 97, 114, 105, 97, 110, 116]
abbrev wPackets : Str := [112, 97, 99, 107, 101, 116, 115]
abbrev wFrom : Str := [102, 114, 111, 109]
abbrev wHops : Str := [104, 111, 112, 115]
abbrev wCount : Str := [99, 111, 117, 110, 116]
abbrev wPath : Str := [112, 97, 116, 104]
def tail4P (l : List Word) (nm pk : Str) (ing : List Str) (hops cmp cnt : Int) (i : Nat) : Except (Nat × Int) Iv :=
  (mustP l wPath i).bind fun i => (pathP l i).bind fun r => .ok ⟨nm, pk, ing, hops, cmp, cnt, r⟩
def tail3P (l : List Word) (nm pk : Str) (ing : List Str) (hops : Int) (i : Nat) : Except (Nat × Int) Iv :=
  (mustP l wCount i).bind fun i => (signP l i).bind fun x => (numberP l 62 x.2).bind fun y => tail4P l nm pk ing hops x.1 y.1 y.2
def tail2P (l : List Word) (nm pk : Str) (ing : List Str) (i : Nat) : Except (Nat × Int) Iv :=
  (mustP l wHops i).bind fun i => (numberP l 64 i).bind fun x => tail3P l nm pk ing x.1 x.2
def tail1P (l : List Word) (nm pk : Str) (i : Nat) : Except (Nat × Int) Iv :=
  (ingP l (l.length + 1 - i) [] i).bind fun x => tail2P l nm pk x.1 x.2
def lineP (l : List Word) : Except (Nat × Int) Iv :=
  (mustP l wInvariant 0).bind fun i => (nameP l i).bind fun x => (mustP l wPackets x.2).bind fun i => (cubeP l i).bind fun y => (mustP l wFrom y.2).bind fun i => tail1P l x.1 y.1 i
def knownP (acc : List Iv) (nm : Str) : Bool := acc.any fun v => v.nm == nm
def addP (acc : List Iv) (l : List Word) : Except (Nat × Int) Iv :=
  (lineP l).bind fun v => if knownP acc v.nm = true then .error (0, 52) else if 64 ≤ acc.length then .error (0, 3) else .ok v
def rowsP : List Iv → List (List Word) → Except (Int × Int × Int) (List Iv)
  | acc, [] => .ok acc
  | acc, l :: ls => match addP acc l with
    | .error (i, e) => .error ((wordW l i).line, (wordW l i).col, e)
    | .ok v => rowsP (acc ++ [v]) ls
end Go.Vm.P

/- Invariants: steps of a line's reader, one by one. -/
namespace Go.Vm.P
variable {l : List Word} {i : Nat}
theorem mustP_t {w : Str} (h : wordAt l i = w) : mustP l w i = .ok (i + 1) := by unfold mustP; rw [if_pos h]
theorem mustP_f {w : Str} (h : ¬ wordAt l i = w) : mustP l w i = .error (i, 120) := by unfold mustP; rw [if_neg h]
section
variable (nm pk : Str) (ing : List Str) (hops cmp cnt : Int)
theorem tail4_t (h : wordAt l i = wPath) : tail4P l nm pk ing hops cmp cnt i = (pathP l (i + 1)).bind fun r => .ok ⟨nm, pk, ing, hops, cmp, cnt, r⟩ := by unfold tail4P; rw [mustP_t h]; rfl
theorem tail4_f (h : ¬ wordAt l i = wPath) : tail4P l nm pk ing hops cmp cnt i = .error (i, 120) := by unfold tail4P; rw [mustP_f h]; rfl
theorem tail3_t (h : wordAt l i = wCount) : tail3P l nm pk ing hops i = (signP l (i + 1)).bind fun x => (numberP l 62 x.2).bind fun y => tail4P l nm pk ing hops x.1 y.1 y.2 := by unfold tail3P; rw [mustP_t h]; rfl
theorem tail3_f (h : ¬ wordAt l i = wCount) : tail3P l nm pk ing hops i = .error (i, 120) := by unfold tail3P; rw [mustP_f h]; rfl
theorem tail2_t (h : wordAt l i = wHops) : tail2P l nm pk ing i = (numberP l 64 (i + 1)).bind fun x => tail3P l nm pk ing x.1 x.2 := by unfold tail2P; rw [mustP_t h]; rfl
theorem tail2_f (h : ¬ wordAt l i = wHops) : tail2P l nm pk ing i = .error (i, 120) := by unfold tail2P; rw [mustP_f h]; rfl
end
theorem ingP_no {f : Nat} {acc : List Str} (h : ¬ isName (wordAt l i) = true) : ingP l (f + 1) acc i = .error (i, 31) := by
  unfold ingP; rw [if_neg h]
theorem ingP_many {f : Nat} {acc : List Str} (h : isName (wordAt l i) = true) (h2 : 256 < (putS (wordAt l i) acc).length) : ingP l (f + 1) acc i = .error (i, 3) := by
  unfold ingP; rw [if_pos h, if_pos h2]
theorem ingP_go {f : Nat} {acc : List Str} (h : isName (wordAt l i) = true) (h2 : ¬ 256 < (putS (wordAt l i) acc).length) (h3 : wordAt l (i + 1) = [44]) : ingP l (f + 1) acc i = ingP l f (putS (wordAt l i) acc) (i + 1 + 1) := by
  rw [ingP, if_pos h, if_neg h2, if_pos h3]
theorem ingP_end {f : Nat} {acc : List Str} (h : isName (wordAt l i) = true) (h2 : ¬ 256 < (putS (wordAt l i) acc).length) (h3 : ¬ wordAt l (i + 1) = [44]) : ingP l (f + 1) acc i = .ok (putS (wordAt l i) acc, i + 1) := by
  rw [ingP, if_pos h, if_neg h2, if_neg h3]
theorem numberP_cases (l : List Word) (m : Int) (i : Nat) : (∃ e, (e = 32 ∨ e = 5) ∧ numberP l m i = .error (i, e)) ∨ ∃ n, numberP l m i = .ok (n, i + 1) ∧ (numP (wordAt l i)) = some n := by
  unfold numberP
  cases h : numP (wordAt l i) with
  | none => exact .inl ⟨32, .inl rfl, rfl⟩
  | some n =>
    dsimp only
    split
    · exact .inl ⟨5, .inr rfl, rfl⟩
    · exact .inr ⟨n, rfl, rfl⟩
theorem signP_t (h : ¬ signOf (wordAt l i) = 0) : signP l i = .ok (signOf (wordAt l i), i + 1) := by unfold signP; rw [if_neg h]
theorem signP_f (h : signOf (wordAt l i) = 0) : signP l i = .error (i, 120) := by unfold signP; rw [if_pos h]
end Go.Vm.P

/- Invariants: how far the readers go. -/
namespace Go.Vm.P
theorem ingP_le {l : List Word} : ∀ (f i : Nat) (acc L : List Str) (j : Nat), l.length < i + f → i ≤ l.length → acc.length ≤ 256 → ingP l f acc i = .ok (L, j) → j ≤ l.length ∧ L.length ≤ 256
  | 0, i, acc, L, j, h, h2, _, _ => by omega
  | f + 1, i, acc, L, j, h, h2, ha, he => by
    by_cases hn : isName (wordAt l i) = true
    · have hi := qb3 (l := l) (i := i) (isName_ne hn)
      by_cases hm : 256 < (putS (wordAt l i) acc).length
      · rw [ingP_many hn hm] at he; cases he
      · by_cases h3 : wordAt l (i + 1) = [44]
        · rw [ingP_go hn hm h3] at he
          have hi2 := qb3 (l := l) (i := i + 1) (by rw [h3]; simp)
          exact ingP_le f _ _ L j (by omega) (by omega) (by omega) he
        · rw [ingP_end hn hm h3] at he
          cases he
          exact ⟨by omega, by omega⟩
    · rw [ingP_no hn] at he; cases he
theorem rowsOf_ne : ∀ (ls : List Str) (n : Int) (rows : List (List Word)), rowsOf n ls = some (.ok rows) → ∀ r, r ∈ rows → r ≠ []
  | [], n, rows, h, r, hr => by cases h; cases hr
  | s :: ls, n, rows, h, r, hr => by
    unfold rowsOf at h
    split at h
    · cases h
    · cases h
    · rename_i l hl
      simp only [Option.map_eq_some_iff] at h
      obtain ⟨y, hy, h2⟩ := h
      cases y with
      | error e => cases h2
      | ok ls' =>
        have ih := rowsOf_ne ls (n + 1) ls' hy
        simp only [putRow, Except.map, Except.ok.injEq] at h2
        subst h2
        cases l with
        | nil => exact ih r hr
        | cons w0 l0 =>
          rcases List.mem_cons.1 hr with rfl | hr
          · simp
          · exact ih r hr
end Go.Vm.P
