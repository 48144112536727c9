/- RxW, RxW2, RxW3 in one text. -/
import Derived.Test.YtikjlgcbcljehaaGreatDoorRxPure3
set_option linter.all false
/- Words said as a text are read as the same words; no program in sight. -/
namespace Go.Vm.P
set_option linter.unusedVariables false
/-- is a text one word? -/
def isWord (s : Str) : Bool := decide (s ≠ []) && decide (wlen s = s.length)
/-- words as a text -/
theorem isWord_iff {s : Str} : isWord s = true ↔ s ≠ [] ∧ wlen s = s.length := by simp [isWord]
theorem wlen_c (c : UInt8) (r : Str) : wlen (c :: r) = if decide (1 ≤ r.length) && pair ((c :: r).take 2) then 2 else if single c then 1 else run (c :: r) := rfl
theorem take2 (c d : UInt8) (s : Str) : (c :: d :: s).take 2 = [c, d] := rfl
/-! no line ends within words -/
end Go.Vm.P

/- The words of an expression; they are words, and how many. -/
namespace Go.Vm.P
set_option linter.unusedVariables false
/-- how loosely a kind binds -/
def Rx.binds (r : Rx) : Nat := if r.op = 5 then 1 else if r.op = 4 ∧ r.ks ≠ [] then 2 else 3
def wrapR (least : Nat) (r : Rx) (b : List Str) : List Str := if r.binds < least then [40] :: (b ++ [[41]]) else b
def markOf (op : Int) : Str := if op = 7 then [43] else if op = 8 then [63] else [42]
mutual
/-- an expression's words -/
def Rx.body : Rx → List Str
  | .mk op nm ks => if op = 1 then [nm] else if op = 2 then [[36], nm] else if op = 3 then [[46]] else if op = 5 then Rx.alts ks
    else if op = 4 then (match ks with | [] => [[40], [41]] | _ :: _ => Rx.seqs ks) else Rx.oper ks ++ [markOf op]
def Rx.alts : List Rx → List Str
  | [] => []
  | k :: ks => wrapR 2 k k.body ++ Rx.altF ks
def Rx.altF : List Rx → List Str
  | [] => []
  | k :: ks => [124] :: (wrapR 2 k k.body ++ Rx.altF ks)
def Rx.seqs : List Rx → List Str
  | [] => []
  | k :: ks => wrapR 2 k k.body ++ Rx.seqs ks
def Rx.oper : List Rx → List Str
  | [] => []
  | k :: _ => wrapR 3 k k.body
end
def Rx.say (least : Nat) (r : Rx) : List Str := wrapR least r r.body
theorem wrap_len (c : Nat) (r : Rx) (b : List Str) : (wrapR c r b).length ≤ b.length + 2 := by
  unfold wrapR
  split
  · simp
  · omega
mutual
theorem Rx.body_len : ∀ r : Rx, r.body.length + 3 ≤ 5 * r.size
  | .mk op nm ks => by
    have h1 := Rx.alts_len ks
    have h2 := Rx.seqs_len ks
    have h3 := Rx.oper_len ks
    simp only [Rx.size]
    unfold Rx.body
    split
    · simp only [List.length_cons, List.length_nil]; omega
    · split
      · simp only [List.length_cons, List.length_nil]; omega
      · split
        · simp only [List.length_cons, List.length_nil]; omega
        · split
          · omega
          · split
            · split
              · simp only [List.length_cons, List.length_nil]; omega
              · omega
            · simp only [List.length_append, List.length_cons, List.length_nil]; omega
theorem Rx.alts_len : ∀ ks : List Rx, (Rx.alts ks).length ≤ 5 * Rx.sizes ks
  | [] => by simp [Rx.alts]
  | k :: ks => by
    have h1 := Rx.body_len k
    have h2 := Rx.altF_len ks
    have h3 := wrap_len 2 k k.body
    simp only [Rx.alts, Rx.sizes, List.length_append]
    omega
theorem Rx.altF_len : ∀ ks : List Rx, (Rx.altF ks).length ≤ 5 * Rx.sizes ks
  | [] => by simp [Rx.altF]
  | k :: ks => by
    have h1 := Rx.body_len k
    have h2 := Rx.altF_len ks
    have h3 := wrap_len 2 k k.body
    simp only [Rx.altF, Rx.sizes, List.length_append, List.length_cons]
    omega
theorem Rx.seqs_len : ∀ ks : List Rx, (Rx.seqs ks).length ≤ 5 * Rx.sizes ks
  | [] => by simp [Rx.seqs]
  | k :: ks => by
    have h1 := Rx.body_len k
    have h2 := Rx.seqs_len ks
    have h3 := wrap_len 2 k k.body
    simp only [Rx.seqs, Rx.sizes, List.length_append]
    omega
theorem Rx.oper_len : ∀ ks : List Rx, (Rx.oper ks).length ≤ 5 * Rx.sizes ks
  | [] => by simp [Rx.oper]
  | k :: ks => by
    have h1 := Rx.body_len k
    have h3 := wrap_len 3 k k.body
    simp only [Rx.oper, Rx.sizes]
    omega
end
/-! they are words -/
theorem name_chars {s : Str} (h : isName s = true) : ∃ c r, s = c :: r ∧ r.length < 64 ∧ digit c = false ∧ c.toNat ≠ 45 ∧ ∀ d, d ∈ c :: r → letter d = true := by
  cases s with
  | nil => cases h
  | cons c r =>
    simp only [isName, Bool.and_eq_true, decide_eq_true_eq, Bool.not_eq_true'] at h
    obtain ⟨⟨⟨h1, h2⟩, h3⟩, h4⟩ := h
    exact ⟨c, r, rfl, h1, h2, h3, fun d hd => List.all_eq_true.1 h4 d hd⟩
theorem letter_not (d : UInt8) (h : d ∈ (62 :: singles : Str)) : letter d = false := by
  simp only [singles, List.mem_cons, List.not_mem_nil, or_false] at h
  rcases h with rfl | rfl | rfl | rfl | rfl | rfl | rfl | rfl | rfl | rfl | rfl | rfl | rfl <;> decide
theorem run_all : ∀ s : Str, (∀ d, d ∈ s → letter d = true) → run s = s.length
  | [], _ => rfl
  | c :: s, h => by
    have ih := run_all s fun d hd => h d (List.mem_cons_of_mem _ hd)
    have hp : [45, 62].isPrefixOf (c :: s) = false := by
      cases s with
      | nil => simp [List.isPrefixOf]
      | cons d s =>
        have hd := h d (by simp)
        have : ¬ d = 62 := by rintro rfl; rw [letter_not 62 (by simp)] at hd; cases hd
        simp only [List.isPrefixOf, Bool.and_eq_false_imp]
        intro _
        have e : ((62 : UInt8) == d) = false := by simp; exact fun e => this e.symm
        rw [e]; simp
    unfold run
    rw [hp, h c (by simp), ih]
    rfl
theorem name_word {s : Str} (h : isName s = true) : isWord s = true := by
  obtain ⟨c, r, rfl, h1, h2, h3, h4⟩ := name_chars h
  refine isWord_iff.2 ⟨by simp, ?_⟩
  have hc := h4 c (by simp)
  have hs : single c = false := by
    cases hs : single c with
    | false => rfl
    | true =>
      have := letter_not c (List.mem_cons_of_mem _ (by simpa [single] using hs))
      rw [this] at hc; cases hc
  have hp : pair ((c :: r).take 2) = false := by
    cases hp : pair ((c :: r).take 2) with
    | false => rfl
    | true =>
      cases r with
      | nil => simp [pair] at hp
      | cons d r =>
        rw [take2] at hp
        simp only [pair, Bool.or_eq_true, beq_iff_eq, List.cons.injEq, and_true] at hp
        rcases hp with ((⟨rfl, rfl⟩ | ⟨rfl, rfl⟩) | ⟨rfl, rfl⟩) | ⟨rfl, rfl⟩
        · rw [letter_not 61 (by decide)] at hc; cases hc
        · rw [letter_not 60 (by decide)] at hc; cases hc
        · rw [letter_not 62 (by decide)] at hc; cases hc
        · exact absurd rfl h3
  rw [wlen_c, hp, hs, Bool.and_false]
  exact run_all _ h4
/-- a word that an expression may have, of at most 64 bytes -/
def RxWord (w : Str) : Prop := isWord w = true ∧ w.length ≤ 64
theorem RxWord.name {s : Str} (h : isName s = true) : RxWord s := by
  obtain ⟨c, r, rfl, h1, _⟩ := name_chars h
  exact ⟨name_word h, by simp only [List.length_cons]; omega⟩
theorem RxWord.one (c : UInt8) (h : isWord [c] = true) : RxWord [c] := ⟨h, by simp⟩
theorem RxWord.wrap {c : Nat} {r : Rx} {b : List Str} (h : ∀ w, w ∈ b → RxWord w) : ∀ w, w ∈ wrapR c r b → RxWord w := by
  unfold wrapR
  split
  · intro w hw
    simp only [List.mem_cons, List.mem_append, List.not_mem_nil, or_false] at hw
    rcases hw with rfl | hw | rfl
    · exact .one 40 (by decide)
    · exact h w hw
    · exact .one 41 (by decide)
  · exact h
theorem nodeOk_cases {op : Int} {nm : Str} {ks : List Rx} (h : nodeOk op nm ks = true) :
    ((op = 1 ∨ op = 2) ∧ isName nm = true ∧ ks = []) ∨ (op = 3 ∧ nm = [] ∧ ks = []) ∨ (op = 4 ∧ nm = [] ∧ ks.length ≠ 1 ∧ hasOp 4 ks = false) ∨
    (op = 5 ∧ nm = [] ∧ 2 ≤ ks.length ∧ hasOp 5 ks = false) ∨ ((op = 6 ∨ op = 7 ∨ op = 8) ∧ nm = [] ∧ ∃ k, ks = [k]) := by
  unfold nodeOk at h
  split at h
  · rename_i h0
    simp only [Bool.and_eq_true, beq_iff_eq] at h
    exact .inl ⟨h0, h.1, List.eq_nil_of_length_eq_zero h.2⟩
  · split at h
    · rename_i h0
      simp only [Bool.and_eq_true, beq_iff_eq] at h
      exact .inr (.inl ⟨h0, h.1, List.eq_nil_of_length_eq_zero h.2⟩)
    · split at h
      · rename_i h0
        simp only [Bool.and_eq_true, beq_iff_eq, bne_iff_ne, Bool.not_eq_true'] at h
        exact .inr (.inr (.inl ⟨h0, h.1.1, h.1.2, h.2⟩))
      · split at h
        · rename_i h0
          simp only [Bool.and_eq_true, beq_iff_eq, decide_eq_true_eq, Bool.not_eq_true'] at h
          exact .inr (.inr (.inr (.inl ⟨h0, h.1.1, h.1.2, h.2⟩)))
        · split at h
          · rename_i h0
            simp only [Bool.and_eq_true, beq_iff_eq] at h
            exact .inr (.inr (.inr (.inr ⟨h0, h.1, List.length_eq_one_iff.1 h.2⟩)))
          · cases h
theorem rights_mem : ∀ {ks : List Rx}, Rx.rights ks = true → ∀ k, k ∈ ks → k.right = true
  | k :: ks, h, x, hx => by
    simp only [Rx.rights, Bool.and_eq_true] at h
    rcases List.mem_cons.1 hx with rfl | hx
    · exact h.1
    · exact rights_mem h.2 x hx
mutual
theorem Rx.body_words : ∀ r : Rx, r.right = true → ∀ w, w ∈ r.body → RxWord w
  | .mk op nm ks, h, w, hw => by
    unfold Rx.right at h
    simp only [Bool.and_eq_true] at h
    obtain ⟨hn, hk⟩ := h
    have h1 := Rx.alts_words ks hk
    have h2 := Rx.seqs_words ks hk
    have h3 := Rx.oper_words ks hk
    unfold Rx.body at hw
    rcases nodeOk_cases hn with ⟨h0, hnm, rfl⟩ | ⟨rfl, _, rfl⟩ | ⟨rfl, _, _, _⟩ | ⟨rfl, _, _, _⟩ | ⟨h0, _, k, rfl⟩
    · rcases h0 with rfl | rfl
      · simp at hw; subst hw; exact .name hnm
      · simp at hw
        rcases hw with rfl | rfl
        · exact .one 36 (by decide)
        · exact .name hnm
    · simp at hw; subst hw; exact .one 46 (by decide)
    · rw [if_neg (by decide), if_neg (by decide), if_neg (by decide), if_neg (by decide), if_pos rfl] at hw
      cases ks with
      | nil =>
        simp at hw
        rcases hw with rfl | rfl
        · exact .one 40 (by decide)
        · exact .one 41 (by decide)
      | cons k ks => exact h2 w hw
    · rw [if_neg (by decide), if_neg (by decide), if_neg (by decide), if_pos rfl] at hw
      exact h1 w hw
    · have hm : RxWord (markOf op) := by
        unfold markOf
        split
        · exact .one 43 (by decide)
        · split
          · exact .one 63 (by decide)
          · exact .one 42 (by decide)
      have e : ¬ op = 1 ∧ ¬ op = 2 ∧ ¬ op = 3 ∧ ¬ op = 5 ∧ ¬ op = 4 := by omega
      rw [if_neg e.1, if_neg e.2.1, if_neg e.2.2.1, if_neg e.2.2.2.1, if_neg e.2.2.2.2] at hw
      rcases List.mem_append.1 hw with hw | hw
      · exact h3 w hw
      · simp at hw; subst hw; exact hm
theorem Rx.alts_words : ∀ ks : List Rx, Rx.rights ks = true → ∀ w, w ∈ Rx.alts ks → RxWord w
  | [], _, w, hw => by cases hw
  | k :: ks, h, w, hw => by
    simp only [Rx.rights, Bool.and_eq_true] at h
    unfold Rx.alts at hw
    rcases List.mem_append.1 hw with hw | hw
    · exact RxWord.wrap (Rx.body_words k h.1) w hw
    · exact Rx.altF_words ks h.2 w hw
theorem Rx.altF_words : ∀ ks : List Rx, Rx.rights ks = true → ∀ w, w ∈ Rx.altF ks → RxWord w
  | [], _, w, hw => by cases hw
  | k :: ks, h, w, hw => by
    simp only [Rx.rights, Bool.and_eq_true] at h
    unfold Rx.altF at hw
    rcases List.mem_cons.1 hw with rfl | hw
    · exact .one 124 (by decide)
    · rcases List.mem_append.1 hw with hw | hw
      · exact RxWord.wrap (Rx.body_words k h.1) w hw
      · exact Rx.altF_words ks h.2 w hw
theorem Rx.seqs_words : ∀ ks : List Rx, Rx.rights ks = true → ∀ w, w ∈ Rx.seqs ks → RxWord w
  | [], _, w, hw => by cases hw
  | k :: ks, h, w, hw => by
    simp only [Rx.rights, Bool.and_eq_true] at h
    unfold Rx.seqs at hw
    rcases List.mem_append.1 hw with hw | hw
    · exact RxWord.wrap (Rx.body_words k h.1) w hw
    · exact Rx.seqs_words ks h.2 w hw
theorem Rx.oper_words : ∀ ks : List Rx, Rx.rights ks = true → ∀ w, w ∈ Rx.oper ks → RxWord w
  | [], _, w, hw => by cases hw
  | k :: ks, h, w, hw => by
    simp only [Rx.rights, Bool.and_eq_true] at h
    unfold Rx.oper at hw
    exact RxWord.wrap (Rx.body_words k h.1) w hw
end
end Go.Vm.P

/- The words of an expression are read as the same expression, unless too many parentheses are open. -/
namespace Go.Vm.P
set_option linter.unusedVariables false
set_option linter.unusedSimpArgs false
variable {l : List Word}
/-- from a place on words stand -/
def At (l : List Word) : Nat → List Str → Prop
  | _, [] => True
  | i, w :: ws => wordAt l i = w ∧ At l (i + 1) ws
theorem At.app : ∀ {a b : List Str} {i : Nat}, At l i (a ++ b) ↔ At l i a ∧ At l (i + a.length) b
  | [], b, i => by simp [At]
  | w :: a, b, i => by
    have e : i + 1 + a.length = i + (w :: a).length := by simp only [List.length_cons]; omega
    simp only [List.cons_append, At, At.app (a := a), and_assoc, e]
/-- r, up to j; or too many parentheses are open -/
def Out (m : Nat) (r : Rx) (j : Nat) (x : Except (Nat × Int) (Rx × Nat)) : Prop := x = .ok (r, j) ∨ ∃ a, x = .error (a, 91) ∧ 50 < m
def Over (w : Str) : Prop := w = [41] ∨ w = []
theorem Out.mono {m m' : Nat} {r : Rx} {j : Nat} {x : Except (Nat × Int) (Rx × Nat)} (h : Out m r j x) (hm : m ≤ m') : Out m' r j x := by
  rcases h with h | ⟨a, h, h2⟩
  · exact .inl h
  · exact .inr ⟨a, h, by omega⟩
/-- how many parentheses may be open inside -/
def Rx.ins (r : Rx) : Nat := if r.ks = [] then r.size else r.size - 1
structure Reads (l : List Word) (r : Rx) : Prop where
  rep : ∀ n o i x, At l i (r.say 3) → pRep l n o i = some x → (∃ n', pReps l n' (i + (r.say 3).length) r = some x) ∨ ∃ a, x = .error (a, 91) ∧ 50 < o + r.size
  seq : r.op ≠ 5 → ∀ n o i x, At l i r.body → (Over (wordAt l (i + r.body.length)) ∨ wordAt l (i + r.body.length) = [124]) → pSeq l n o i = some x → Out (o + r.ins) r (i + r.body.length) x
  alt : ∀ n o i x, At l i r.body → Over (wordAt l (i + r.body.length)) → pAlt l n o i = some x → Out (o + r.ins) r (i + r.body.length) x
theorem over_op {w : Str} (h : Over w ∨ w = [124]) : opOf w = 0 ∧ starts w = false := by
  rcases h with (rfl | rfl) | rfl <;> exact ⟨by decide, by decide⟩
/-- the first word of an expression -/
theorem wrap_head {c : Nat} {r : Rx} {b : List Str} (h : ∃ w ws, b = w :: ws ∧ starts w = true) : ∃ w ws, wrapR c r b = w :: ws ∧ starts w = true := by
  unfold wrapR
  split
  · exact ⟨[40], _, rfl, by decide⟩
  · exact h
theorem body_head : ∀ r : Rx, r.right = true → ∃ w ws, r.body = w :: ws ∧ starts w = true := by
  refine Rx.ind fun r ih h => ?_
  obtain ⟨op, nm, ks⟩ := r
  rw [Rx.right_eq, Bool.and_eq_true] at h
  simp only [Rx.op, Rx.nm, Rx.ks] at h ih
  obtain ⟨hn, hk⟩ := h
  have hks := rights_mem hk
  unfold Rx.body
  rcases nodeOk_cases hn with ⟨h0, hnm, rfl⟩ | ⟨rfl, _, rfl⟩ | ⟨rfl, _, h2, _⟩ | ⟨rfl, _, h2, _⟩ | ⟨h0, _, k, rfl⟩
  · rcases h0 with rfl | rfl
    · exact ⟨nm, [], rfl, by simp [starts, hnm]⟩
    · exact ⟨[36], [nm], rfl, by decide⟩
  · exact ⟨[46], [], rfl, by decide⟩
  · rw [if_neg (by decide), if_neg (by decide), if_neg (by decide), if_neg (by decide), if_pos rfl]
    cases ks with
    | nil => exact ⟨[40], [[41]], rfl, by decide⟩
    | cons k ks =>
      obtain ⟨w, ws, e, hs⟩ := wrap_head (c := 2) (r := k) (ih k (by simp) (hks k (by simp)))
      exact ⟨w, ws ++ Rx.seqs ks, by simp [Rx.seqs, e], hs⟩
  · rw [if_neg (by decide), if_neg (by decide), if_neg (by decide), if_pos rfl]
    cases ks with
    | nil => simp at h2
    | cons k ks =>
      obtain ⟨w, ws, e, hs⟩ := wrap_head (c := 2) (r := k) (ih k (by simp) (hks k (by simp)))
      exact ⟨w, ws ++ Rx.altF ks, by simp [Rx.alts, e], hs⟩
  · have e : ¬ op = 1 ∧ ¬ op = 2 ∧ ¬ op = 3 ∧ ¬ op = 5 ∧ ¬ op = 4 := by omega
    rw [if_neg e.1, if_neg e.2.1, if_neg e.2.2.1, if_neg e.2.2.2.1, if_neg e.2.2.2.2]
    obtain ⟨w, ws, e, hs⟩ := wrap_head (c := 3) (r := k) (ih k (by simp) (hks k (by simp)))
    exact ⟨w, ws ++ [markOf op], by simp [Rx.oper, e], hs⟩
theorem starts_op {w : Str} (h : starts w = true) : opOf w = 0 := by
  unfold starts at h
  unfold opOf
  have h42 : ¬ w = [42] := by rintro rfl; revert h; decide
  have h43 : ¬ w = [43] := by rintro rfl; revert h; decide
  have h63 : ¬ w = [63] := by rintro rfl; revert h; decide
  rw [if_neg h42, if_neg h43, if_neg h63]
theorem reps_end {n i : Nat} {r : Rx} {x : Except (Nat × Int) (Rx × Nat)} (h : pReps l n i r = some x) (hw : opOf (wordAt l i) = 0) : x = .ok (r, i) := by
  cases n with
  | zero => simp only [pSeqs, pAlts, pSeq, pAlt, pRep, pReps, pAtom, reduceCtorEq] at h
  | succ n => rw [pReps, if_pos hw] at h; exact (Option.some.inj h).symm
theorem ins_kid {r k : Rx} (h : k ∈ r.ks) : k.size ≤ r.ins := by
  have h1 : ∀ {ks : List Rx}, k ∈ ks → k.size ≤ Rx.sizes ks := by
    intro ks hk
    induction ks with
    | nil => cases hk
    | cons a ks ih =>
      simp only [Rx.sizes]
      rcases List.mem_cons.1 hk with rfl | hk
      · omega
      · have := ih hk; omega
  have := h1 h
  have e := Rx.size_eq r
  unfold Rx.ins
  split
  · omega
  · omega
theorem ins_le (r : Rx) : r.ins ≤ r.size := by unfold Rx.ins; split <;> omega
/-- a sequence's parts, one behind the other -/
theorem seqs_read : ∀ (ks : List Rx) (n o i m : Nat) (acc : List Rx) (x : Except (Nat × Int) (Rx × Nat)), (∀ k, k ∈ ks → Reads l k ∧ k.right = true ∧ k.op ≠ 4 ∧ o + k.size ≤ m) →
    At l i (Rx.seqs ks) → (Over (wordAt l (i + (Rx.seqs ks).length)) ∨ wordAt l (i + (Rx.seqs ks).length) = [124]) → pSeqs l n o i acc = some x → Out m (join 4 (acc ++ ks)) (i + (Rx.seqs ks).length) x
  | [], n, o, i, m, acc, x, hk, ha, hw, h => by
    cases n with
    | zero => simp only [pSeqs, pAlts, pSeq, pAlt, pRep, pReps, pAtom, reduceCtorEq] at h
    | succ n =>
      simp only [Rx.seqs, List.length_nil, Nat.add_zero, List.append_nil] at hw ⊢
      rw [pSeqs, if_neg (by rw [(over_op hw).2]; decide)] at h
      exact .inl (Option.some.inj h).symm
  | k :: ks, n, o, i, m, acc, x, hk, ha, hw, h => by
    cases n with
    | zero => simp only [pSeqs, pAlts, pSeq, pAlt, pRep, pReps, pAtom, reduceCtorEq] at h
    | succ n =>
      obtain ⟨hr, hkr, hk4, hkm⟩ := hk k (by simp)
      have hsay : wrapR 2 k k.body = k.say 3 := by
        by_cases h5 : k.op = 5
        · have e : k.binds = 1 := by unfold Rx.binds; rw [if_pos h5]
          unfold Rx.say wrapR
          rw [e]; rfl
        · have e : k.binds = 3 := by unfold Rx.binds; rw [if_neg h5, if_neg (fun e => hk4 e.1)]
          unfold Rx.say wrapR
          rw [e]; rfl
      unfold Rx.seqs at ha hw ⊢
      rw [hsay] at ha hw ⊢
      rw [At.app] at ha
      rw [List.length_append, ← Nat.add_assoc] at hw ⊢
      obtain ⟨w, ws, hb, hs⟩ := wrap_head (c := 3) (r := k) (body_head k hkr)
      have hb' : k.say 3 = w :: ws := hb
      have h0 := ha.1
      rw [hb'] at h0
      rw [pSeqs, if_pos (by rw [h0.1]; exact hs)] at h
      have hnx : opOf (wordAt l (i + (k.say 3).length)) = 0 := by
        cases ks with
        | nil =>
          simp only [Rx.seqs, List.length_nil, Nat.add_zero] at hw
          exact (over_op hw).1
        | cons k2 ks =>
          obtain ⟨w2, ws2, hb2, hs2⟩ := wrap_head (c := 2) (r := k2) (body_head k2 (hk k2 (by simp)).2.1)
          have := ha.2
          rw [Rx.seqs, At.app, hb2] at this
          rw [this.1.1]
          exact starts_op hs2
      rcases PR.bind_some h with ⟨e, h1, rfl⟩ | ⟨r, j, h1, h2⟩
      · rcases hr.rep _ _ _ _ ha.1 h1 with ⟨n', h3⟩ | ⟨a, h3, h4⟩
        · have := reps_end h3 hnx; cases this
        · cases h3; exact .inr ⟨a, rfl, by omega⟩
      · rcases hr.rep _ _ _ _ ha.1 h1 with ⟨n', h3⟩ | ⟨a, h3, h4⟩
        · have := reps_end h3 hnx
          cases this
          have := seqs_read ks n o _ m (acc ++ [k]) x (fun y hy => hk y (List.mem_cons_of_mem _ hy)) ha.2 hw h2
          rwa [List.append_assoc] at this
        · cases h3
/-- the ways of a choice, one behind the other -/
theorem altF_read : ∀ (ks : List Rx) (n o i m : Nat) (acc : List Rx) (x : Except (Nat × Int) (Rx × Nat)), (∀ k, k ∈ ks → Reads l k ∧ k.right = true ∧ k.op ≠ 5 ∧ o + k.size ≤ m) →
    At l i (Rx.altF ks) → Over (wordAt l (i + (Rx.altF ks).length)) → pAlts l n o i acc = some x → Out m (join 5 (acc ++ ks)) (i + (Rx.altF ks).length) x
  | [], n, o, i, m, acc, x, hk, ha, hw, h => by
    cases n with
    | zero => simp only [pSeqs, pAlts, pSeq, pAlt, pRep, pReps, pAtom, reduceCtorEq] at h
    | succ n =>
      simp only [Rx.altF, List.length_nil, Nat.add_zero, List.append_nil] at hw ⊢
      have hne : ¬ wordAt l i = [124] := by
        rcases hw with h | h <;> rw [h] <;> decide
      rw [pAlts, if_neg hne] at h
      exact .inl (Option.some.inj h).symm
  | k :: ks, n, o, i, m, acc, x, hk, ha, hw, h => by
    cases n with
    | zero => simp only [pSeqs, pAlts, pSeq, pAlt, pRep, pReps, pAtom, reduceCtorEq] at h
    | succ n =>
      obtain ⟨hr, hkr, hk5, hkm⟩ := hk k (by simp)
      have hsay : wrapR 2 k k.body = k.body := by
        have e : 2 ≤ k.binds := by unfold Rx.binds; rw [if_neg hk5]; split <;> omega
        unfold wrapR
        rw [if_neg (by omega)]
      unfold Rx.altF at ha hw ⊢
      rw [hsay] at ha hw ⊢
      obtain ⟨ha0, ha⟩ := ha
      rw [At.app] at ha
      have e1 : i + ([124] :: (k.body ++ Rx.altF ks)).length = (i + 1 + k.body.length) + (Rx.altF ks).length := by simp only [List.length_cons, List.length_append]; omega
      rw [e1] at hw ⊢
      rw [pAlts, if_pos ha0] at h
      have hnx : Over (wordAt l (i + 1 + k.body.length)) ∨ wordAt l (i + 1 + k.body.length) = [124] := by
        cases ks with
        | nil => simp only [Rx.altF, List.length_nil, Nat.add_zero] at hw; exact .inl hw
        | cons k2 ks => exact .inr ha.2.1
      have hik : o + k.ins ≤ m := by have := ins_le k; omega
      rcases PR.bind_some h with ⟨e, h1, rfl⟩ | ⟨r, j, h1, h2⟩
      · rcases hr.seq hk5 _ _ _ _ ha.1 hnx h1 with h3 | ⟨a, h3, h4⟩
        · cases h3
        · cases h3; exact .inr ⟨a, rfl, by omega⟩
      · rcases hr.seq hk5 _ _ _ _ ha.1 hnx h1 with h3 | ⟨a, h3, h4⟩
        · cases h3
          have := altF_read ks n o _ m (acc ++ [k]) x (fun y hy => hk y (List.mem_cons_of_mem _ hy)) ha.2 hw h2
          rwa [List.append_assoc] at this
        · cases h3
theorem flat_no {op : Int} : ∀ {ks : List Rx}, (∀ k, k ∈ ks → k.op ≠ op) → flat op ks = ks
  | [], _ => rfl
  | k :: ks, h => by
    unfold flat
    rw [if_neg (h k (by simp)), flat_no fun x hx => h x (List.mem_cons_of_mem _ hx)]
    rfl
theorem join_no {op : Int} {ks : List Rx} (h : ∀ k, k ∈ ks → k.op ≠ op) (h2 : 2 ≤ ks.length) : join op ks = .mk op [] ks := by
  match ks, h2 with
  | a :: b :: ks, _ =>
    show (match flat op (a :: b :: ks) with | [r] => r | ks => Rx.mk op [] ks) = _
    rw [flat_no h]
theorem hasOp_no {op : Int} {ks : List Rx} (h : hasOp op ks = false) : ∀ k, k ∈ ks → k.op ≠ op := by
  intro k hk e
  unfold hasOp at h
  rw [List.any_eq_false] at h
  exact h k hk (by simp [e])
/-- a sequence of one part -/
theorem seq_one {r : Rx} {n o i : Nat} {x : Except (Nat × Int) (Rx × Nat)} (hr : ∀ n o i x, At l i (r.say 3) → pRep l n o i = some x → (∃ n', pReps l n' (i + (r.say 3).length) r = some x) ∨ ∃ a, x = .error (a, 91) ∧ 50 < o + r.ins)
    (hb : r.say 3 = r.body) (ha : At l i r.body) (hw : Over (wordAt l (i + r.body.length)) ∨ wordAt l (i + r.body.length) = [124]) (h : pSeq l n o i = some x) : Out (o + r.ins) r (i + r.body.length) x := by
  cases n with
  | zero => simp only [pSeqs, pAlts, pSeq, pAlt, pRep, pReps, pAtom, reduceCtorEq] at h
  | succ n =>
    rw [pSeq] at h
    have hnx := over_op hw
    rcases PR.bind_some h with ⟨e, h1, rfl⟩ | ⟨r', j, h1, h2⟩
    · rcases hr _ _ _ _ (hb ▸ ha) h1 with ⟨n', h3⟩ | ⟨a, h3, h4⟩
      · rw [hb] at h3; have := reps_end h3 hnx.1; cases this
      · cases h3; exact .inr ⟨a, rfl, h4⟩
    · rcases hr _ _ _ _ (hb ▸ ha) h1 with ⟨n', h3⟩ | ⟨a, h3, h4⟩
      · rw [hb] at h3
        have := reps_end h3 hnx.1
        cases this
        cases n with
        | zero => simp only [pSeqs, pAlts, pSeq, pAlt, pRep, pReps, pAtom, reduceCtorEq] at h2
        | succ n =>
          rw [pSeqs, if_neg (by rw [hnx.2]; decide)] at h2
          exact .inl (Option.some.inj h2).symm
      · cases h3
/-- a choice of one way -/
theorem alt_one {r : Rx} {n o i : Nat} {x : Except (Nat × Int) (Rx × Nat)} (hr : ∀ n o i x, At l i r.body → (Over (wordAt l (i + r.body.length)) ∨ wordAt l (i + r.body.length) = [124]) → pSeq l n o i = some x → Out (o + r.ins) r (i + r.body.length) x)
    (ha : At l i r.body) (hw : Over (wordAt l (i + r.body.length))) (h : pAlt l n o i = some x) : Out (o + r.ins) r (i + r.body.length) x := by
  cases n with
  | zero => simp only [pSeqs, pAlts, pSeq, pAlt, pRep, pReps, pAtom, reduceCtorEq] at h
  | succ n =>
    rw [pAlt] at h
    have hne : ¬ wordAt l (i + r.body.length) = [124] := by
      rcases hw with h | h <;> rw [h] <;> decide
    rcases PR.bind_some h with ⟨e, h1, rfl⟩ | ⟨r', j, h1, h2⟩
    · exact (hr _ _ _ _ ha (.inl hw) h1).elim (fun e => by cases e) fun ⟨a, h3, h4⟩ => .inr ⟨a, h3, h4⟩
    · rcases hr _ _ _ _ ha (.inl hw) h1 with h3 | ⟨a, h3, h4⟩
      · cases h3
        cases n with
        | zero => simp only [pSeqs, pAlts, pSeq, pAlt, pRep, pReps, pAtom, reduceCtorEq] at h2
        | succ n =>
          rw [pAlts, if_neg hne] at h2
          exact .inl (Option.some.inj h2).symm
      · cases h3
/-- what stands in parentheses -/
theorem rep_wrap {r : Rx} (hr : r.right = true) (hks : r.ks ≠ []) (hb : r.binds < 3) (hal : ∀ n o i x, At l i r.body → Over (wordAt l (i + r.body.length)) → pAlt l n o i = some x → Out (o + r.ins) r (i + r.body.length) x) :
    ∀ n o i x, At l i (r.say 3) → pRep l n o i = some x → (∃ n', pReps l n' (i + (r.say 3).length) r = some x) ∨ ∃ a, x = .error (a, 91) ∧ 50 < o + r.size := by
  intro n o i x ha h
  have hsay : r.say 3 = [40] :: (r.body ++ [[41]]) := by unfold Rx.say wrapR; rw [if_pos hb]
  rw [hsay] at ha ⊢
  obtain ⟨ha0, ha⟩ := ha
  rw [At.app] at ha
  obtain ⟨ha1, ha2, _⟩ := ha
  obtain ⟨w, ws, hbd, hs⟩ := body_head r hr
  have hpos := Rx.size_pos r
  have hins : r.ins = r.size - 1 := by unfold Rx.ins; rw [if_neg hks]
  have hw1 : ¬ wordAt l (i + 1) = [41] := by
    have := ha1
    rw [hbd] at this
    rw [this.1]
    rintro rfl
    revert hs; decide
  cases n with
  | zero => simp only [pSeqs, pAlts, pSeq, pAlt, pRep, pReps, pAtom, reduceCtorEq] at h
  | succ n =>
    rw [pRep] at h
    have key : ∀ y, pAtom l n o i = some y → y = .ok (r, i + 1 + r.body.length + 1) ∨ ∃ a, y = .error (a, 91) ∧ 50 < o + r.size := by
      intro y hy
      cases n with
      | zero => simp only [pSeqs, pAlts, pSeq, pAlt, pRep, pReps, pAtom, reduceCtorEq] at hy
      | succ n =>
        rw [pAtom, if_neg (by rw [ha0]; decide), if_neg (by rw [ha0]; decide), if_pos ha0, if_neg hw1] at hy
        split at hy
        · cases hy; exact .inr ⟨_, rfl, by omega⟩
        · rcases PR.bind_some hy with ⟨e, h1, rfl⟩ | ⟨r', j, h1, h2⟩
          · rcases hal _ _ _ _ ha1 (.inl ha2) h1 with h3 | ⟨a, h3, h4⟩
            · cases h3
            · cases h3; exact .inr ⟨a, rfl, by omega⟩
          · rcases hal _ _ _ _ ha1 (.inl ha2) h1 with h3 | ⟨a, h3, h4⟩
            · cases h3
              rw [if_pos ha2] at h2
              exact .inl (Option.some.inj h2).symm
            · cases h3
    rcases PR.bind_some h with ⟨e, h1, rfl⟩ | ⟨r', j, h1, h2⟩
    · rcases key _ h1 with h3 | h3
      · cases h3
      · exact .inr h3
    · rcases key _ h1 with h3 | ⟨a, h3, h4⟩
      · cases h3
        refine .inl ⟨n, ?_⟩
        have e : i + ([40] :: (r.body ++ [[41]])).length = i + 1 + r.body.length + 1 := by simp only [List.length_cons, List.length_append, List.length_nil]; omega
        rw [e]; exact h2
      · cases h3
theorem binds_mk (op : Int) (nm : Str) (ks : List Rx) : (Rx.mk op nm ks).binds = if op = 5 then 1 else if op = 4 ∧ ks ≠ [] then 2 else 3 := rfl
theorem say3 {r : Rx} (h : r.binds = 3) : r.say 3 = r.body := by unfold Rx.say wrapR; rw [h]; rfl
theorem reads (l : List Word) : ∀ r : Rx, r.right = true → Reads l r := by
  refine Rx.ind fun r ih h => ?_
  have hright := h
  rw [Rx.right_eq, Bool.and_eq_true] at h
  obtain ⟨hn, hk⟩ := h
  have hks := rights_mem hk
  have hsub : ∀ k, k ∈ r.ks → Reads l k := fun k hm => ih k hm (hks k hm)
  obtain ⟨op, nm, ks⟩ := r
  simp only [Rx.op, Rx.nm, Rx.ks] at hn hk hks hsub
  rcases nodeOk_cases hn with ⟨h0, hnm, rfl⟩ | ⟨rfl, rfl, rfl⟩ | ⟨rfl, rfl, h2, h3⟩ | ⟨rfl, rfl, h2, h3⟩ | ⟨h0, rfl, k, rfl⟩
  · -- a device or a class
    have h5 : ¬ op = 5 := by omega
    have h4 : ¬ op = 4 := by omega
    have hb : (Rx.mk op nm []).say 3 = (Rx.mk op nm []).body := by
      exact say3 (by rw [binds_mk, if_neg h5, if_neg (fun e => h4 e.1)])
    have hrep : ∀ n o i x, At l i ((Rx.mk op nm []).say 3) → pRep l n o i = some x → (∃ n', pReps l n' (i + ((Rx.mk op nm []).say 3).length) (Rx.mk op nm []) = some x) ∨ ∃ a, x = .error (a, 91) ∧ 50 < o + (Rx.mk op nm []).ins := by
      intro n o i x ha hx
      rw [hb] at ha ⊢
      have hst : starts nm = true := by simp [starts, hnm]
      have hq : ¬ nm = [46] ∧ ¬ nm = [36] ∧ ¬ nm = [40] := by
        refine ⟨?_, ?_, ?_⟩ <;> (rintro rfl; revert hnm; decide)
      cases n with
      | zero => simp only [pSeqs, pAlts, pSeq, pAlt, pRep, pReps, pAtom, reduceCtorEq] at hx
      | succ n =>
        rw [pRep] at hx
        have key : ∀ y, pAtom l n o i = some y → y = .ok (Rx.mk op nm [], i + (Rx.mk op nm []).body.length) := by
          intro y hy
          cases n with
          | zero => simp only [pSeqs, pAlts, pSeq, pAlt, pRep, pReps, pAtom, reduceCtorEq] at hy
          | succ n =>
            rcases h0 with rfl | rfl
            · have ha0 : wordAt l i = nm := ha.1
              rw [pAtom, ha0, if_neg hq.1, if_neg hq.2.1, if_neg hq.2.2, if_pos hnm] at hy
              exact (Option.some.inj hy).symm
            · have ha0 : wordAt l i = [36] := ha.1
              have ha1 : wordAt l (i + 1) = nm := ha.2.1
              rw [pAtom, if_neg (by rw [ha0]; decide), if_pos ha0, if_pos (by rw [ha1]; exact hnm), ha1] at hy
              exact (Option.some.inj hy).symm
        rcases PR.bind_some hx with ⟨e, h1, rfl⟩ | ⟨r', j, h1, h2⟩
        · have := key _ h1; cases this
        · have := key _ h1; cases this; exact .inl ⟨n, h2⟩
    have hseq : ∀ n o i x, At l i (Rx.mk op nm []).body → (Over (wordAt l (i + (Rx.mk op nm []).body.length)) ∨ wordAt l (i + (Rx.mk op nm []).body.length) = [124]) → pSeq l n o i = some x → Out (o + (Rx.mk op nm []).ins) (Rx.mk op nm []) (i + (Rx.mk op nm []).body.length) x :=
      fun n o i x ha hw hx => seq_one hrep hb ha hw hx
    exact ⟨fun n o i x ha hx => (hrep n o i x ha hx).imp id fun ⟨a, h1, h2⟩ => ⟨a, h1, by have := ins_le (Rx.mk op nm []); omega⟩, fun _ => hseq, fun n o i x ha hw hx => alt_one hseq ha hw hx⟩
  · -- any
    have hb : (Rx.mk 3 [] []).say 3 = (Rx.mk 3 [] []).body := rfl
    have hrep : ∀ n o i x, At l i ((Rx.mk 3 [] []).say 3) → pRep l n o i = some x → (∃ n', pReps l n' (i + ((Rx.mk 3 [] []).say 3).length) (Rx.mk 3 [] []) = some x) ∨ ∃ a, x = .error (a, 91) ∧ 50 < o + (Rx.mk 3 [] []).ins := by
      intro n o i x ha hx
      have ha0 : wordAt l i = [46] := ha.1
      cases n with
      | zero => simp only [pSeqs, pAlts, pSeq, pAlt, pRep, pReps, pAtom, reduceCtorEq] at hx
      | succ n =>
        rw [pRep] at hx
        have key : ∀ y, pAtom l n o i = some y → y = .ok (Rx.mk 3 [] [], i + 1) := by
          intro y hy
          cases n with
          | zero => simp only [pSeqs, pAlts, pSeq, pAlt, pRep, pReps, pAtom, reduceCtorEq] at hy
          | succ n => rw [pAtom, if_pos ha0] at hy; exact (Option.some.inj hy).symm
        rcases PR.bind_some hx with ⟨e, h1, rfl⟩ | ⟨r', j, h1, h2⟩
        · have := key _ h1; cases this
        · have := key _ h1; cases this; exact .inl ⟨n, h2⟩
    have hseq : ∀ n o i x, At l i (Rx.mk 3 [] []).body → (Over (wordAt l (i + (Rx.mk 3 [] []).body.length)) ∨ wordAt l (i + (Rx.mk 3 [] []).body.length) = [124]) → pSeq l n o i = some x → Out (o + (Rx.mk 3 [] []).ins) (Rx.mk 3 [] []) (i + (Rx.mk 3 [] []).body.length) x :=
      fun n o i x ha hw hx => seq_one hrep hb ha hw hx
    exact ⟨fun n o i x ha hx => (hrep n o i x ha hx).imp id fun ⟨a, h1, h2⟩ => ⟨a, h1, by have := ins_le (Rx.mk 3 [] []); omega⟩, fun _ => hseq, fun n o i x ha hw hx => alt_one hseq ha hw hx⟩
  · -- one behind the other
    cases ks with
    | nil =>
      have hb : (Rx.mk 4 [] []).say 3 = (Rx.mk 4 [] []).body := rfl
      have hrep : ∀ n o i x, At l i ((Rx.mk 4 [] []).say 3) → pRep l n o i = some x → (∃ n', pReps l n' (i + ((Rx.mk 4 [] []).say 3).length) (Rx.mk 4 [] []) = some x) ∨ ∃ a, x = .error (a, 91) ∧ 50 < o + (Rx.mk 4 [] []).ins := by
        intro n o i x ha hx
        have ha0 : wordAt l i = [40] := ha.1
        have ha1 : wordAt l (i + 1) = [41] := ha.2.1
        cases n with
        | zero => simp only [pSeqs, pAlts, pSeq, pAlt, pRep, pReps, pAtom, reduceCtorEq] at hx
        | succ n =>
          rw [pRep] at hx
          have key : ∀ y, pAtom l n o i = some y → y = .ok (Rx.mk 4 [] [], i + 2) ∨ ∃ a, y = .error (a, 91) ∧ 50 < o + (Rx.mk 4 [] []).ins := by
            intro y hy
            cases n with
            | zero => simp only [pSeqs, pAlts, pSeq, pAlt, pRep, pReps, pAtom, reduceCtorEq] at hy
            | succ n =>
              rw [pAtom, if_neg (by rw [ha0]; decide), if_neg (by rw [ha0]; decide), if_pos ha0] at hy
              split at hy
              · cases hy; exact .inr ⟨_, rfl, by show 50 < o + 1; omega⟩
              · exact .inl (Option.some.inj hy).symm
          rcases PR.bind_some hx with ⟨e, h1, rfl⟩ | ⟨r', j, h1, h2⟩
          · rcases key _ h1 with h3 | h3
            · cases h3
            · exact .inr h3
          · rcases key _ h1 with h3 | ⟨a, h3, h4⟩
            · cases h3; exact .inl ⟨n, h2⟩
            · cases h3
      have hseq : ∀ n o i x, At l i (Rx.mk 4 [] []).body → (Over (wordAt l (i + (Rx.mk 4 [] []).body.length)) ∨ wordAt l (i + (Rx.mk 4 [] []).body.length) = [124]) → pSeq l n o i = some x → Out (o + (Rx.mk 4 [] []).ins) (Rx.mk 4 [] []) (i + (Rx.mk 4 [] []).body.length) x :=
        fun n o i x ha hw hx => seq_one hrep hb ha hw hx
      exact ⟨fun n o i x ha hx => (hrep n o i x ha hx).imp id fun ⟨a, h1, h2⟩ => ⟨a, h1, by have := ins_le (Rx.mk 4 [] []); omega⟩, fun _ => hseq, fun n o i x ha hw hx => alt_one hseq ha hw hx⟩
    | cons k ks =>
      have hno := hasOp_no h3
      have hlen : 2 ≤ (k :: ks).length := by simp only [List.length_cons] at h2 ⊢; omega
      have hbody : (Rx.mk 4 [] (k :: ks)).body = Rx.seqs (k :: ks) := rfl
      have hseq : ∀ n o i x, At l i (Rx.mk 4 [] (k :: ks)).body → (Over (wordAt l (i + (Rx.mk 4 [] (k :: ks)).body.length)) ∨ wordAt l (i + (Rx.mk 4 [] (k :: ks)).body.length) = [124]) → pSeq l n o i = some x → Out (o + (Rx.mk 4 [] (k :: ks)).ins) (Rx.mk 4 [] (k :: ks)) (i + (Rx.mk 4 [] (k :: ks)).body.length) x := by
        intro n o i x ha hw hx
        cases n with
        | zero => simp only [pSeqs, pAlts, pSeq, pAlt, pRep, pReps, pAtom, reduceCtorEq] at hx
        | succ n =>
          -- the first part as one of the others
          have h1 : pSeqs l (n + 1) o i [] = some x := by
            rw [pSeq] at hx
            rw [pSeqs, if_pos ?_]
            · exact hx
            · rw [hbody, Rx.seqs, At.app] at ha
              obtain ⟨w, ws, hb2, hs2⟩ := wrap_head (c := 2) (r := k) (body_head k (hks k (by simp)))
              have := ha.1
              rw [hb2] at this
              rw [this.1]; exact hs2
          have := seqs_read (k :: ks) (n + 1) o i (o + (Rx.mk 4 [] (k :: ks)).ins) [] x (fun y hy => ⟨hsub y hy, hks y hy, hno y hy, by have := ins_kid (r := Rx.mk 4 [] (k :: ks)) hy; omega⟩) ha hw h1
          rw [List.nil_append, join_no hno hlen] at this
          exact this
      have halt : ∀ n o i x, At l i (Rx.mk 4 [] (k :: ks)).body → Over (wordAt l (i + (Rx.mk 4 [] (k :: ks)).body.length)) → pAlt l n o i = some x → Out (o + (Rx.mk 4 [] (k :: ks)).ins) (Rx.mk 4 [] (k :: ks)) (i + (Rx.mk 4 [] (k :: ks)).body.length) x :=
        fun n o i x ha hw hx => alt_one hseq ha hw hx
      exact ⟨rep_wrap hright (by simp [Rx.ks]) (by simp [Rx.binds, Rx.op, Rx.ks]) halt, fun _ => hseq, halt⟩
  · -- either
    cases ks with
    | nil => simp at h2
    | cons k ks =>
      have hno := hasOp_no h3
      have hbody : (Rx.mk 5 [] (k :: ks)).body = Rx.alts (k :: ks) := rfl
      have hk5 := hno k (by simp)
      have hsay : wrapR 2 k k.body = k.body := by
        have e : 2 ≤ k.binds := by unfold Rx.binds; rw [if_neg hk5]; split <;> omega
        unfold wrapR
        rw [if_neg (by omega)]
      have halt : ∀ n o i x, At l i (Rx.mk 5 [] (k :: ks)).body → Over (wordAt l (i + (Rx.mk 5 [] (k :: ks)).body.length)) → pAlt l n o i = some x → Out (o + (Rx.mk 5 [] (k :: ks)).ins) (Rx.mk 5 [] (k :: ks)) (i + (Rx.mk 5 [] (k :: ks)).body.length) x := by
        intro n o i x ha hw hx
        rw [hbody, Rx.alts, hsay] at ha hw ⊢
        rw [At.app] at ha
        rw [List.length_append, ← Nat.add_assoc] at hw ⊢
        cases n with
        | zero => simp only [pSeqs, pAlts, pSeq, pAlt, pRep, pReps, pAtom, reduceCtorEq] at hx
        | succ n =>
          rw [pAlt] at hx
          have hnx : Over (wordAt l (i + k.body.length)) ∨ wordAt l (i + k.body.length) = [124] := by
            cases ks with
            | nil => simp only [Rx.altF, List.length_nil, Nat.add_zero] at hw; exact .inl hw
            | cons k2 ks => exact .inr ha.2.1
          have hm : o + k.ins ≤ o + (Rx.mk 5 [] (k :: ks)).ins := by
            have h1 := ins_le k
            have h2 := ins_kid (r := Rx.mk 5 [] (k :: ks)) (k := k) (by simp [Rx.ks])
            omega
          rcases PR.bind_some hx with ⟨e, h1, rfl⟩ | ⟨r', j, h1, h2⟩
          · rcases (hsub k (by simp)).seq hk5 _ _ _ _ ha.1 hnx h1 with h3 | ⟨a, h3, h4⟩
            · cases h3
            · cases h3; exact .inr ⟨a, rfl, by omega⟩
          · rcases (hsub k (by simp)).seq hk5 _ _ _ _ ha.1 hnx h1 with h3 | ⟨a, h3, h4⟩
            · cases h3
              have := altF_read ks n o _ (o + (Rx.mk 5 [] (k :: ks)).ins) [k] x (fun y hy => ⟨hsub y (List.mem_cons_of_mem _ hy), hks y (List.mem_cons_of_mem _ hy), hno y (List.mem_cons_of_mem _ hy), by have := ins_kid (r := Rx.mk 5 [] (k :: ks)) (k := y) (by simp [Rx.ks, hy]); omega⟩) ha.2 hw h2
              rw [List.cons_append, List.nil_append, join_no hno (by assumption)] at this
              exact this
            · cases h3
      exact ⟨rep_wrap hright (by simp [Rx.ks]) (by simp [Rx.binds, Rx.op]) halt, fun h => absurd rfl h, halt⟩
  · -- with a mark
    have e : ¬ op = 1 ∧ ¬ op = 2 ∧ ¬ op = 3 ∧ ¬ op = 5 ∧ ¬ op = 4 := by omega
    have hb : (Rx.mk op [] [k]).say 3 = (Rx.mk op [] [k]).body := by
      exact say3 (by rw [binds_mk, if_neg e.2.2.2.1, if_neg (fun h => e.2.2.2.2 h.1)])
    have hbody : (Rx.mk op [] [k]).body = k.say 3 ++ [markOf op] := by
      unfold Rx.body
      rw [if_neg e.1, if_neg e.2.1, if_neg e.2.2.1, if_neg e.2.2.2.1, if_neg e.2.2.2.2]
      rfl
    have hmk : opOf (markOf op) = op := by
      rcases h0 with rfl | rfl | rfl <;> decide
    have hki : k.size ≤ (Rx.mk op [] [k]).ins := ins_kid (r := Rx.mk op [] [k]) (by simp [Rx.ks])
    have hrep : ∀ n o i x, At l i ((Rx.mk op [] [k]).say 3) → pRep l n o i = some x → (∃ n', pReps l n' (i + ((Rx.mk op [] [k]).say 3).length) (Rx.mk op [] [k]) = some x) ∨ ∃ a, x = .error (a, 91) ∧ 50 < o + (Rx.mk op [] [k]).ins := by
      intro n o i x ha hx
      rw [hb, hbody] at ha ⊢
      rw [At.app] at ha
      obtain ⟨ha1, ha2, _⟩ := ha
      rcases (hsub k (by simp)).rep _ _ _ _ ha1 hx with ⟨n', h1⟩ | ⟨a, h1, h2⟩
      · cases n' with
        | zero => cases h1
        | succ n' =>
          rw [pReps, ha2, hmk, if_neg (by omega)] at h1
          refine .inl ⟨n', ?_⟩
          rw [List.length_append, ← Nat.add_assoc]
          exact h1
      · exact .inr ⟨a, h1, by omega⟩
    have hseq : ∀ n o i x, At l i (Rx.mk op [] [k]).body → (Over (wordAt l (i + (Rx.mk op [] [k]).body.length)) ∨ wordAt l (i + (Rx.mk op [] [k]).body.length) = [124]) → pSeq l n o i = some x → Out (o + (Rx.mk op [] [k]).ins) (Rx.mk op [] [k]) (i + (Rx.mk op [] [k]).body.length) x :=
      fun n o i x ha hw hx => seq_one hrep hb ha hw hx
    exact ⟨fun n o i x ha hx => (hrep n o i x ha hx).imp id fun ⟨a, h1, h2⟩ => ⟨a, h1, by have := ins_le (Rx.mk op [] [k]); omega⟩, fun _ => hseq, fun n o i x ha hw hx => alt_one hseq ha hw hx⟩
theorem At.drop : ∀ {b : List Str} {i : Nat}, (l.drop i).map Word.t = b → At l i b
  | [], _, _ => trivial
  | w :: b, i, h => by
    cases hd : l.drop i with
    | nil => rw [hd] at h; cases h
    | cons v t =>
      rw [hd] at h
      simp only [List.map_cons, List.cons.injEq] at h
      have hv : l[i]? = some v := by
        have := congrArg (fun x => x[0]?) hd
        simpa using this
      refine ⟨by unfold wordAt; rw [hv]; exact h.1, At.drop ?_⟩
      rw [← List.drop_drop, hd]
      exact h.2
theorem check_0 {r : Rx} (h : r.check = 0) : r.size ≤ 1000 ∧ r.depth ≤ 100 ∧ r.right = true := by
  unfold Rx.check at h
  split at h
  · cases h
  · split at h
    · cases h
    · split at h
      · exact ⟨by omega, by omega, by assumption⟩
      · cases h
end Go.Vm.P
