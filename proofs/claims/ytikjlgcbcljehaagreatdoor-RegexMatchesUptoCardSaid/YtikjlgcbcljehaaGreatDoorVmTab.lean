/- VmSt3, VmSt4, VmMat, VmVs, VmTab in one text. -/
import Derived.Test.YtikjlgcbcljehaaGreatDoorVmSt2
import Derived.Test.YtikjlgcbcljehaaGreatDoorVmSort
set_option linter.all false
/- A row that grows in a store that grows. -/
namespace Go.Vm
open Go
set_option linter.unusedVariables false
/-- S: A, one slot, and what has come since; d: a row of ds with room of its own behind A, or none -/
structure Grow (A : St) (s0 : Slot) (n : Nat) (S : St) (d : D) (ds : List D) : Prop where
  sto : ∃ L, S = A ++ s0 :: L
  row : (∃ c, A.length < c ∧ d = .sl (.own c 0) n ds ∧ S[c]? = some (.tok ds.length)) ∨ d = .sl .full n ds ∨ (d = .sl .full 0 [] ∧ ds = [])
variable {A S : St} {s0 : Slot} {n : Nat} {d : D} {ds : List D}
theorem Grow.nil (A : St) (s0 : Slot) (n : Nat) (L : St) : Grow A s0 n (A ++ s0 :: L) (.sl .full 0 []) [] := ⟨⟨L, rfl⟩, .inr (.inr ⟨rfl, rfl⟩)⟩
theorem Grow.app (g : Grow A s0 n S d ds) (M : St) {y : D} {new : List D} {w : Nat} (hy : appendNew n y = some new) (hl : ds.length + new.length ≤ 1000000000) (hw : w ≤ 100000) :
    ∃ d' S', appendO n w d y (S ++ M) = some (d', S') ∧ Grow A s0 n S' d' (ds ++ new) := by
  obtain ⟨⟨L, rfl⟩, hr⟩ := g
  have hro : roomOk (ds.length + new.length) w = true := by
    simp only [roomOk, decide_eq_true_eq]
    have := Nat.mul_le_mul hl hw
    omega
  have hl' : ds.length + new.length ≤ 9223372036854775807 := by omega
  have full : ∀ e, esOk .full e n ds = true → ∃ d' S', appendO n w (.sl .full e ds) y (A ++ s0 :: L ++ M) = some (d', S') ∧ Grow A s0 n S' d' (ds ++ new) := by
    intro e he
    cases new with
    | nil =>
      refine ⟨.sl .full n ds, A ++ s0 :: L ++ M, ?_, ⟨⟨L ++ M, by simp⟩, .inr (.inl (by simp))⟩⟩
      simp only [List.length_nil, Nat.add_zero] at hro hl'
      simp [appendO, appendS, hy, hro, hl', he]
    | cons x new =>
      refine ⟨.sl (.own (A ++ s0 :: L ++ M).length 0) n (ds ++ x :: new), A ++ s0 :: L ++ M ++ [.tok (ds.length + (x :: new).length)], ?_, ⟨⟨L ++ M ++ [.tok (ds.length + (x :: new).length)], by simp⟩, .inl ⟨_, ?_, rfl, ?_⟩⟩⟩
      · simp only [List.length_cons] at hro hl'
        simp [appendO, appendS, hy, hro, hl', he]
      · simp only [List.length_append, List.length_cons]; omega
      · rw [List.getElem?_append_right (Nat.le_refl _)]; simp
  rcases hr with ⟨c, hc, rfl, ht⟩ | rfl | ⟨rfl, rfl⟩
  · have hcl : c < (A ++ s0 :: L).length := by
      rcases Nat.lt_or_ge c (A ++ s0 :: L).length with h | h
      · exact h
      · rw [List.getElem?_eq_none h] at ht; cases ht
    refine ⟨.sl (.own c 0) n (ds ++ new), ((A ++ s0 :: L) ++ M).set c (.tok (ds.length + new.length)), ?_, ⟨⟨((s0 :: L ++ M).set (c - A.length) (.tok (ds.length + new.length))).drop 1, ?_⟩, .inl ⟨c, hc, rfl, ?_⟩⟩⟩
    · rw [append_own (s0 := 0) hy (by rw [List.getElem?_append_left hcl, ht]; simp) hro hl']
      simp
    · obtain ⟨m, hm⟩ : ∃ m, c - A.length = m + 1 := ⟨c - A.length - 1, by omega⟩
      rw [hm, List.append_assoc, List.set_append_right _ _ (by omega), hm]
      simp
    · rw [List.getElem?_set_self (by simp only [List.length_append] at hcl ⊢; omega)]
      simp
  · exact full n (by simp [esOk])
  · exact full 0 (by simp [esOk, Own.isOwn])
theorem Grow.app1 (g : Grow A s0 n S d ds) (M : St) {x : D} {w : Nat} (hl : ds.length + 1 ≤ 1000000000) (hw : w ≤ 100000) :
    ∃ d' S', appendO n w d (.sl .full n [x]) (S ++ M) = some (d', S') ∧ Grow A s0 n S' d' (ds ++ [x]) := g.app M (by simp [appendNew, esOk]) hl hw
theorem Grow.appL (g : Grow A s0 n S d ds) (M : St) {new : List D} {w : Nat} (hl : ds.length + new.length ≤ 1000000000) (hw : w ≤ 100000) :
    ∃ d' S', appendO n w d (encL n new) (S ++ M) = some (d', S') ∧ Grow A s0 n S' d' (ds ++ new) := g.app M (appendNew_encL n new) hl hw
theorem Grow.canon (g : Grow A s0 n S d ds) (h : PlainL ds) : d.canon = encL n ds := by
  rcases g.row with ⟨c, _, rfl, _⟩ | rfl | ⟨rfl, rfl⟩
  · exact canon_sl h _ _
  · exact canon_sl h _ _
  · rfl
theorem Grow.shut (g : Grow A s0 n S d ds) (h : PlainL ds) (m : Nat) : (d.shut m).canon = encL n ds := by
  rcases g.row with ⟨c, _, rfl, _⟩ | rfl | ⟨rfl, rfl⟩
  · simp only [shut_sl, h.shut]; exact canon_sl h _ _
  · simp only [shut_sl, h.shut]; exact canon_sl h _ _
  · rfl
theorem Grow.len (g : Grow A s0 n S d ds) : lenSlO d = some (.int .i64 ds.length) := by
  rcases g.row with ⟨c, _, rfl, _⟩ | rfl | ⟨rfl, rfl⟩ <;> rfl
theorem Grow.cell (g : Grow A s0 n S d ds) : d.cellsT false = some [d] := by
  rcases g.row with ⟨c, _, rfl, _⟩ | rfl | ⟨rfl, rfl⟩ <;> rfl
theorem Grow.take (g : Grow A s0 n S d ds) : S.take A.length = A := by obtain ⟨⟨L, rfl⟩, _⟩ := g; simp
end Go.Vm

/- A row that grows in a store that grows: how a function is left with it. -/
namespace Go.Vm
open Go
set_option linter.unusedVariables false
variable {A S : St} {s0 : Slot} {n : Nat} {d : D} {ds : List D}
theorem Grow.more (g : Grow A s0 n S d ds) (M : St) : Grow A s0 n (S ++ M) d ds := by
  obtain ⟨⟨L, rfl⟩, hr⟩ := g
  refine ⟨⟨L ++ M, by simp⟩, ?_⟩
  rcases hr with ⟨c, hc, rfl, ht⟩ | h
  · refine .inl ⟨c, hc, rfl, ?_⟩
    rw [List.getElem?_append_left ?_, ht]
    rcases Nat.lt_or_ge c (A ++ s0 :: L).length with h | h
    · exact h
    · rw [List.getElem?_eq_none h] at ht; cases ht
  · exact .inr h
theorem app_keeps {n w : Nat} {x y d' : D} {S S' : St} (hx : ∀ k off es len, x ≠ .vsl k off es len) (h : appendO n w x y S = some (d', S')) : ∀ (j : Nat) (cs : List D), S[j]? = some (.cells cs) → S'[j]? = some (.cells cs) := by
  intro j cs hj
  have hlt : j < S.length := by
    rcases Nat.lt_or_ge j S.length with h | h
    · exact h
    · rw [List.getElem?_eq_none h] at hj; cases hj
  have e : appendO n w x y S = appendS n w x y S := by
    unfold appendO
    split
    · exact absurd rfl (hx _ _ _ _)
    · rfl
  rw [e] at h
  unfold appendS at h
  simp only [Option.bind_eq_some_iff] at h
  obtain ⟨new, _, h⟩ := h
  split at h
  · split at h
    · split at h
      · split at h
        · cases h; exact hj
        · cases h; rw [List.getElem?_append_left hlt]; exact hj
      · simp only [Option.bind_eq_some_iff] at h
        obtain ⟨s, hs, h⟩ := h
        split at h
        · split at h
          · cases h
            rw [List.getElem?_set]
            split
            · rename_i e; subst e; rw [hs] at hj; cases hj
            · exact hj
          · cases h
        · cases h
      · split at h
        · cases h; exact hj
        · cases h
    · cases h
  · cases h
theorem Grow.app0 (g : Grow A s0 n S d ds) {y : D} {new : List D} {w : Nat} (hy : appendNew n y = some new) (hl : ds.length + new.length ≤ 1000000000) (hw : w ≤ 100000) :
    ∃ d' S', appendO n w d y S = some (d', S') ∧ Grow A s0 n S' d' (ds ++ new) ∧ ∀ (j : Nat) (cs : List D), S[j]? = some (.cells cs) → S'[j]? = some (.cells cs) := by
  obtain ⟨d', S', h, g'⟩ := g.app [] hy hl hw
  rw [List.append_nil] at h
  exact ⟨d', S', h, g', app_keeps (by rcases g.row with ⟨c, _, rfl, _⟩ | rfl | ⟨rfl, _⟩ <;> (intros; simp)) h⟩
theorem Grow.lit (A : St) (s0 : Slot) (n : Nat) (L : St) (ds : List D) : Grow A s0 n (A ++ s0 :: L) (.sl .full n ds) ds := ⟨⟨L, rfl⟩, .inr (.inl rfl)⟩
theorem Grow.acc {L : St} {b : Option Nat} (hb : AccOk b n ds) : Grow A s0 n (accA b (A ++ s0 :: L) ds) (accD b (A ++ s0 :: L).length n ds) ds := by
  cases b with
  | none =>
    refine ⟨⟨L ++ [.tok ds.length], by simp [accA]⟩, .inl ⟨(A ++ s0 :: L).length, by simp only [List.length_append, List.length_cons]; omega, rfl, ?_⟩⟩
    simp only [accA]
    rw [List.getElem?_append_right (Nat.le_refl _)]; simp
  | some e =>
    refine ⟨⟨L, rfl⟩, ?_⟩
    rcases hb with hb | hb | ⟨hb, h2⟩
    · cases hb
    · cases hb; exact .inr (.inl rfl)
    · cases hb; subst h2; exact .inr (.inr ⟨rfl, rfl⟩)
theorem Grow.accA (g : Grow A s0 n S d ds) (b : Option Nat) (es : List D) : Grow A s0 n (accA b S es) d ds := by
  cases b with
  | none => exact g.more _
  | some e => exact g
theorem Grow.leave (g : Grow A s0 n S d ds) (hp : PlainL ds) : ∃ b, AccOk b n ds ∧ leaveD RetK.own A (.ret d) S = some (.ret (accD b A.length n ds), Vm.accA b A ds) := by
  obtain ⟨⟨L, rfl⟩, hr⟩ := g
  have hk : Kept A (A ++ s0 :: L) := (qar A (s0 :: L)).2 trivial
  rcases hr with ⟨c, hc, rfl, ht⟩ | rfl | ⟨rfl, rfl⟩
  · refine ⟨none, .own _ _, ?_⟩
    have hn : ¬ c < A.length := by omega
    simp [leaveD, guardP, hk, hn, ht, hp.shut, accD, Vm.accA]
  · exact ⟨some n, .full _ _, by simp [leaveD, guardP, hk, Res.shut, hp.shut, Own.shut, accD, Vm.accA]⟩
  · exact ⟨some 0, .nil _, by simp [leaveD, guardP, hk, Res.shut, D.shut, D.shutL, Own.shut, accD, Vm.accA]⟩
theorem Grow.box {cs : List D} (g : Grow A (.cells cs) n S d ds) {gg : Bool} {m off : Nat} : loadO gg m (.ref A.length off) S = ofCells gg cs off m := by
  obtain ⟨⟨L, rfl⟩, _⟩ := g
  exact ld0
theorem Grow.box_get {cs : List D} (g : Grow A (.cells cs) n S d ds) : S[A.length]? = some (.cells cs) := by
  obtain ⟨⟨L, rfl⟩, _⟩ := g
  simp
theorem load_get {cs : List D} {j : Nat} (h : S[j]? = some (.cells cs)) {gg : Bool} {m off : Nat} : loadO gg m (.ref j off) S = ofCells gg cs off m := by simp [loadO, h]
/-- a function is left with a row of its own -/
def RowOut (A : St) (n : Nat) (ds : List D) (x : Res × St) : Prop := ∃ b, AccOk b n ds ∧ x = (.ret (accD b A.length n ds), Vm.accA b A ds)
theorem Grow.out (g : Grow A s0 n S d ds) (hp : PlainL ds) : Tot (RowOut A n ds) (leaveD RetK.own A (.ret d) S) := by
  obtain ⟨b, hb, h⟩ := g.leave hp
  exact ⟨_, h, b, hb, rfl⟩
end Go.Vm

/- Square tables of truth values in the store: a row of rows, made one behind the other. -/
namespace Go.Vm
open Go
set_option linter.unusedVariables false
set_option linter.unusedSimpArgs false
abbrev Mt := Nat → Nat → Bool
def updM (m : Mt) (i j : Nat) (v : Bool) : Mt := fun i' j' => if i' = i ∧ j' = j then v else m i' j'
def matRow (k N : Nat) : List D := (List.range N).map fun i => .vsl (k + 1 + i) 0 1 N
def bits (N : Nat) (f : Nat → Bool) : List D := (List.range N).map fun j => .bool (f j)
/-- slot k has the rows of a table, the slots behind it have their values -/
structure Mat (S : St) (k N : Nat) (m : Mt) : Prop where
  row : S[k]? = some (.cells (matRow k N))
  el : ∀ i, i < N → S[k + 1 + i]? = some (.cells (bits N (m i)))
/-- nothing else turns -/
structure Pres (S S' : St) (k N : Nat) : Prop where
  len : S'.length = S.length
  old : ∀ j, ¬ (k ≤ j ∧ j ≤ k + N) → S'[j]? = S[j]?
/-- what was there stays -/
structure KeepS (S S' : St) : Prop where
  len : S.length ≤ S'.length
  old : ∀ j, j < S.length → S'[j]? = S[j]?
theorem KeepS.refl (S : St) : KeepS S S := ⟨Nat.le_refl _, fun _ _ => rfl⟩
theorem KeepS.trans {S T U : St} (h : KeepS S T) (k : KeepS T U) : KeepS S U := ⟨Nat.le_trans h.len k.len, fun j hj => (k.old j (Nat.lt_of_lt_of_le hj h.len)).trans (h.old j hj)⟩
theorem KeepS.app (S L : St) : KeepS S (S ++ L) := ⟨by simp, fun j hj => List.getElem?_append_left hj⟩
theorem KeepS.pres {S T U : St} {k N : Nat} (h : KeepS S T) (p : Pres T U k N) (hk : S.length ≤ k) : KeepS S U := ⟨by rw [p.len]; exact h.len, fun j hj => (p.old j (by omega)).trans (h.old j hj)⟩
theorem Pres.refl (S : St) (k N : Nat) : Pres S S k N := ⟨rfl, fun _ _ => rfl⟩
theorem Pres.trans {S T U : St} {k N : Nat} (h : Pres S T k N) (p : Pres T U k N) : Pres S U k N := ⟨p.len.trans h.len, fun j hj => (p.old j hj).trans (h.old j hj)⟩
theorem getE_lt {S : St} {k : Nat} {s : Slot} (h : S[k]? = some s) : k < S.length := by
  rcases Nat.lt_or_ge k S.length with h2 | h2
  · exact h2
  · rw [List.getElem?_eq_none h2] at h; cases h
theorem Mat.lt {S : St} {k N : Nat} {m : Mt} (h : Mat S k N m) : k + N < S.length := by
  have h0 := getE_lt h.row
  rcases Nat.eq_zero_or_pos N with rfl | hN
  · omega
  · have := getE_lt (h.el (N - 1) (by omega)); omega
theorem Mat.keeps {S T : St} {k N : Nat} {m : Mt} (h : Mat S k N m) (hk : KeepS S T) : Mat T k N m := by
  have hl := h.lt
  exact ⟨(hk.old k (by omega)).trans h.row, fun i hi => (hk.old _ (by omega)).trans (h.el i hi)⟩
theorem Mat.pres {S T : St} {k N k' N' : Nat} {m : Mt} (h : Mat S k N m) (hp : Pres S T k' N') (hd : k + N < k' ∨ k' + N' < k) : Mat T k N m :=
  ⟨(hp.old k (by omega)).trans h.row, fun i hi => (hp.old _ (by omega)).trans (h.el i hi)⟩
theorem Mat.congr {S : St} {k N : Nat} {m m' : Mt} (h : Mat S k N m) (he : ∀ i j, i < N → j < N → m i j = m' i j) : Mat S k N m' :=
  ⟨h.row, fun i hi => by
    rw [h.el i hi]
    congr 2
    unfold bits
    exact List.map_congr_left fun j hj => by rw [he i j hi (List.mem_range.1 hj)]⟩
section
variable {S : St} {k N i j : Nat} {m : Mt}
theorem ix_v (h : i < N) (kd : IntKind) : indexAddrO 1 false (.vsl k 0 1 N) (.int kd (i : Int)) = some (.ref k i) := by simp [indexAddrO, D.int?, h]
theorem ld_row (h : Mat S k N m) (hi : i < N) : loadO false 1 (.ref k i) S = some (.vsl (k + 1 + i) 0 1 N) := by
  simp [loadO, h.row, ofCells, matRow, hi]
theorem ld_bit (h : Mat S k N m) (hi : i < N) (hj : j < N) : loadO false 1 (.ref (k + 1 + i) j) S = some (.bool (m i j)) := by
  simp [loadO, h.el i hi, ofCells, bits, hj]
/-- one value laid -/
def wrM (S : St) (k N : Nat) (m : Mt) (i j : Nat) (v : Bool) : St := S.set (k + 1 + i) (.cells (bits N (updM m i j v i)))
theorem bits_set (f : Nat → Bool) (v : Bool) (hj : j < N) : splice (bits N f) j [.bool v] = bits N (fun t => if t = j then v else f t) := by
  unfold splice bits
  apply List.ext_getElem?
  intro t
  have hlen : (List.take j ((List.range N).map fun j => D.bool (f j))).length = j := by simp; omega
  rcases Nat.lt_trichotomy t j with h | h | h
  · rw [List.append_assoc, List.getElem?_append_left (by omega), List.getElem?_take_of_lt h]
    simp only [List.getElem?_map]
    rw [List.getElem?_range (by omega)]
    simp [Nat.ne_of_lt h]
  · subst h
    rw [List.append_assoc, List.getElem?_append_right (by omega), hlen]
    simp [hj]
  · rw [List.append_assoc, List.getElem?_append_right (by omega), hlen]
    obtain ⟨u, rfl⟩ : ∃ u, t = j + 1 + u := ⟨t - j - 1, by omega⟩
    have e : j + 1 + u - j = u + 1 := by omega
    rw [e, List.singleton_append, List.getElem?_cons_succ, List.getElem?_drop]
    simp only [List.length_singleton, List.getElem?_map]
    rcases Nat.lt_or_ge (j + 1 + u) N with h2 | h2
    · rw [List.getElem?_range h2]
      have : ¬ j + 1 + u = j := by omega
      simp [this]
    · rw [List.getElem?_eq_none (by simpa using h2)]; rfl
theorem sto_bit (h : Mat S k N m) (hi : i < N) (hj : j < N) (v : Bool) : storeO false 1 (.ref (k + 1 + i) j) (.bool v) S = some (wrM S k N m i j v) := by
  have e : D.cellsT false (.bool v) = some [.bool v] := rfl
  have hl : (bits N (m i)).length = N := by simp [bits]
  have hc : ([D.bool v].length = 1 ∧ j + 1 ≤ (bits N (m i)).length) := ⟨rfl, by rw [hl]; omega⟩
  unfold storeO wrM
  rw [e]
  simp only [Option.bind_some, h.el i hi]
  rw [if_pos hc, bits_set _ _ hj]
  congr 3
  unfold bits updM
  exact List.map_congr_left fun t _ => by simp
theorem wrM_mat (h : Mat S k N m) (hi : i < N) (v : Bool) : Mat (wrM S k N m i j v) k N (updM m i j v) := by
  have hl := h.lt
  refine ⟨?_, fun t ht => ?_⟩
  · unfold wrM
    rw [List.getElem?_set_ne (by omega)]; exact h.row
  · unfold wrM
    by_cases e : t = i
    · subst e
      rw [List.getElem?_set_self (by omega)]
    · rw [List.getElem?_set_ne (by omega), h.el t ht]
      congr 2
      unfold bits updM
      exact List.map_congr_left fun u _ => by simp [e]
theorem wrM_pres (h : Mat S k N m) (hi : i < N) (v : Bool) : Pres S (wrM S k N m i j v) k N := by
  refine ⟨by simp [wrM], fun t ht => ?_⟩
  unfold wrM
  rw [List.getElem?_set_ne (by omega)]
end
/-! a table is made -/
theorem make_v {n b N : Nat} {zc : List D} {A : St} (h0 : 0 < N) (h1 : N ≤ 1000000) (hb : b ≤ 1000000) (hz : allCells zc = true) :
    makeO n b n zc (.int .i64 (N : Int)) (.int .i64 (N : Int)) A = some (.vsl A.length 0 n N, A ++ [.cells (List.replicate N zc).flatten]) := by
  have hr : roomOk N b = true := by
    simp only [roomOk, decide_eq_true_eq]
    have := Nat.mul_le_mul h1 hb
    omega
  have h2 : ¬ (N : Int) = 0 := by omega
  have h3 : (N : Int) ≤ 9223372036854775807 := by omega
  simp [makeO, D.int?, hr, h2, h3, hz]
  omega
/-- a table of which the first rows are made -/
def partM (A : St) (N i : Nat) : St := A ++ .cells ((List.range N).map fun t => if t < i then .vsl (A.length + 1 + t) 0 1 N else .sl .full 0 []) :: List.replicate i (.cells (bits N fun _ => false))
theorem partM_len (A : St) (N i : Nat) : (partM A N i).length = A.length + 1 + i := by simp [partM]; omega
theorem partM_0 (A : St) (N : Nat) : A ++ [.cells (List.replicate N [D.sl .full 0 []]).flatten] = partM A N 0 := by
  unfold partM
  congr 3
  induction N with
  | zero => rfl
  | succ N ih =>
    rw [List.range_succ, List.map_append, List.replicate_succ', List.flatten_append, ih]
    simp
theorem flat_false (N : Nat) : (List.replicate N [D.bool false]).flatten = bits N fun _ => false := by
  induction N with
  | zero => rfl
  | succ N ih =>
    unfold bits at *
    rw [List.range_succ, List.map_append, List.replicate_succ', List.flatten_append, ih]
    simp
theorem partM_next {A : St} {N i : Nat} (hi : i < N) : storeO false 1 (.ref A.length i) (.vsl (partM A N i).length 0 1 N) (partM A N i ++ [.cells (List.replicate N [D.bool false]).flatten]) = some (partM A N (i + 1)) := by
  have e : ∀ q, D.cellsT false (.vsl q 0 1 N) = some [.vsl q 0 1 N] := fun _ => rfl
  rw [partM_len, flat_false]
  unfold storeO partM
  rw [e]
  have hg : ((A ++ Slot.cells ((List.range N).map fun t => if t < i then D.vsl (A.length + 1 + t) 0 1 N else .sl .full 0 []) :: List.replicate i (.cells (bits N fun _ => false))) ++ [.cells (bits N fun _ => false)])[A.length]? =
      some (.cells ((List.range N).map fun t => if t < i then D.vsl (A.length + 1 + t) 0 1 N else .sl .full 0 [])) := by simp
  simp only [Option.bind_some, hg]
  rw [if_pos ⟨rfl, by simp; omega⟩]
  congr 1
  have hs : splice ((List.range N).map fun t => if t < i then D.vsl (A.length + 1 + t) 0 1 N else .sl .full 0 []) i [.vsl (A.length + 1 + i) 0 1 N] = (List.range N).map fun t => if t < i + 1 then D.vsl (A.length + 1 + t) 0 1 N else .sl .full 0 [] := by
    unfold splice
    apply List.ext_getElem?
    intro t
    have hlen : (List.take i ((List.range N).map fun t => if t < i then D.vsl (A.length + 1 + t) 0 1 N else .sl .full 0 [])).length = i := by simp; omega
    rcases Nat.lt_trichotomy t i with h | h | h
    · rw [List.append_assoc, List.getElem?_append_left (by omega), List.getElem?_take_of_lt h]
      simp only [List.getElem?_map]
      rw [List.getElem?_range (by omega)]
      have : t < i + 1 := by omega
      simp [h, this]
    · subst h
      rw [List.append_assoc, List.getElem?_append_right (by omega), hlen]
      simp [hi]
    · rw [List.append_assoc, List.getElem?_append_right (by omega), hlen]
      obtain ⟨u, rfl⟩ : ∃ u, t = i + 1 + u := ⟨t - i - 1, by omega⟩
      have e : i + 1 + u - i = u + 1 := by omega
      rw [e, List.singleton_append, List.getElem?_cons_succ, List.getElem?_drop]
      simp only [List.length_singleton, List.getElem?_map]
      rcases Nat.lt_or_ge (i + 1 + u) N with h2 | h2
      · rw [List.getElem?_range h2]
        have : ¬ i + 1 + u < i + 1 := by omega
        have h3 : ¬ i + 1 + u < i := by omega
        simp [this, h3]
      · rw [List.getElem?_eq_none (by simpa using h2)]; rfl
  rw [hs]
  simp [List.replicate_succ']
theorem partM_all (A : St) (N : Nat) : Mat (partM A N N) A.length N fun _ _ => false := by
  refine ⟨?_, fun i hi => ?_⟩
  · unfold partM matRow
    rw [List.getElem?_append_right (Nat.le_refl _)]
    simp only [Nat.sub_self, List.getElem?_cons_zero, Option.some.injEq, Slot.cells.injEq]
    exact List.map_congr_left fun t ht => by rw [if_pos (List.mem_range.1 ht)]
  · unfold partM
    rw [List.getElem?_append_right (by omega)]
    have e : A.length + 1 + i - A.length = i + 1 := by omega
    rw [e, List.getElem?_cons_succ, List.getElem?_replicate]
    simp [hi]
theorem partM_keeps (A : St) (N i : Nat) : KeepS A (partM A N i) := KeepS.app _ _
/-! values laid along a row -/
def rowAdd (src : Nat → Bool) (i : Nat) : Nat → Nat → Mt → Mt
  | 0, _, m => m
  | f + 1, j, m => rowAdd src i f (j + 1) (updM m i j (m i j || src j))
theorem rowAdd_get (src : Nat → Bool) (i : Nat) : ∀ (f j : Nat) (m : Mt) (i' j' : Nat), rowAdd src i f j m i' j' = (m i' j' || (decide (i' = i ∧ j ≤ j' ∧ j' < j + f) && src j'))
  | 0, j, m, i', j' => by
    have : ¬ (i' = i ∧ j ≤ j' ∧ j' < j + 0) := by omega
    rw [decide_eq_false this]; simp [rowAdd]
  | f + 1, j, m, i', j' => by
    unfold rowAdd
    rw [rowAdd_get src i f (j + 1)]
    unfold updM
    by_cases h : i' = i ∧ j' = j
    · obtain ⟨rfl, rfl⟩ := h
      have h1 : ¬ (i' = i' ∧ j' + 1 ≤ j' ∧ j' < j' + 1 + f) := by omega
      have h2 : (i' = i' ∧ j' ≤ j' ∧ j' < j' + (f + 1)) := by omega
      rw [decide_eq_false h1, decide_eq_true h2]
      simp
    · rw [if_neg h]
      congr 2
      rw [Bool.eq_iff_iff]
      simp only [decide_eq_true_eq]
      omega
end Go.Vm

/- Rows of texts in a variable: they grow, are sorted, and are left as values. -/
namespace Go.Vm
open Go
set_option linter.unusedVariables false
/-- slot k has these texts -/
abbrev TRow (S : St) (k : Nat) (xs : List (List UInt8)) : Prop := S[k]? = some (.cells (xs.map .str))
theorem newCells_str : ∀ (ys : List (List UInt8)), newCells 1 (ys.map .str) = some (ys.map .str)
  | [] => rfl
  | y :: ys => by simp [newCells, cellsAny, D.cellsT, D.cell?, newCells_str ys]
theorem tok_v0 (A : St) : tokO [(0, 1000001)] (.sl .full 0 []) A = some (.vsl A.length 0 1 0, A ++ [.cells []]) := tok_vsl 0 1000001 0 A (by omega)
theorem tok_vv (A : St) (k off es len : Nat) (h : List (Nat × Nat)) : tokO h (.vsl k off es len) A = some (.vsl k off es len, A) := by
  unfold tokO tokD
  cases h with
  | nil => rfl
  | cons x r => obtain ⟨a, b⟩ := x; rfl
/-- texts behind a row in a variable -/
theorem app_v {S : St} {k : Nat} {xs ys : List (List UInt8)} (h : TRow S k xs) {y : D} (hy : appendNew 1 y = some (ys.map .str)) (hb : xs.length + ys.length ≤ 1000000) :
    ∃ k' S', appendO 1 16 (.vsl k 0 1 xs.length) y S = some (.vsl k' 0 1 (xs ++ ys).length, S') ∧ TRow S' k' (xs ++ ys) ∧ S.length ≤ S'.length ∧ (∀ j, j ≠ k → j < S.length → S'[j]? = S[j]?) ∧ (k' = k ∨ k' = S.length) := by
  have hr : roomOk (xs.length + (ys.map D.str).length) 16 = true := by
    simp only [roomOk, decide_eq_true_eq, List.length_map]; omega
  have hr2 : xs.length + (ys.map D.str).length ≤ 9223372036854775807 := by simp only [List.length_map]; omega
  cases ys with
  | nil =>
    refine ⟨k, S, ?_, by simpa using h, Nat.le_refl _, fun _ _ _ => rfl, .inl rfl⟩
    simp only [List.map_nil] at hy hr hr2
    simp only [appendO, appendVO, hy, Option.bind_some]
    rw [if_pos ⟨trivial, trivial, hr, hr2⟩, h]
    simp
  | cons y0 ys =>
    refine ⟨S.length, S.set k .dead ++ [.cells ((xs ++ y0 :: ys).map .str)], ?_, ?_, by simp, fun j hj hl => ?_, .inr rfl⟩
    · simp only [appendO, appendVO, hy, Option.bind_some]
      rw [if_pos ⟨trivial, trivial, hr, hr2⟩, h]
      simp only [Option.bind_some]
      rw [if_pos (by simp), newCells_str]
      simp
    · unfold TRow
      rw [List.getElem?_append_right (by simp)]
      simp
    · rw [List.getElem?_append_left (by simpa using hl), List.getElem?_set_ne (fun e => hj e.symm)]
theorem keeps_app {A S S' : St} {k : Nat} (h : KeepS A S) (hk : A.length ≤ k) (hl : S.length ≤ S'.length) (ho : ∀ j, j ≠ k → j < S.length → S'[j]? = S[j]?) : KeepS A S' :=
  ⟨Nat.le_trans h.len hl, fun j hj => (ho j (by omega) (Nat.lt_of_lt_of_le hj h.len)).trans (h.old j hj)⟩
theorem keeps_set {A S : St} {k : Nat} {s : Slot} (h : KeepS A S) (hk : A.length ≤ k) : KeepS A (S.set k s) :=
  ⟨by simpa using h.len, fun j hj => by rw [List.getElem?_set_ne (by omega)]; exact h.old j hj⟩
theorem keeps_take {A S : St} (h : KeepS A S) : S.take A.length = A := by
  apply List.ext_getElem?
  intro j
  rcases Nat.lt_or_ge j A.length with hj | hj
  · rw [List.getElem?_take_of_lt hj, h.old j hj]
  · rw [List.getElem?_eq_none hj, List.getElem?_eq_none (by simp; omega)]
theorem keeps_kept {A S : St} (h : KeepS A S) : Kept A S := ⟨h.len, fun j hj => .inl (h.old j hj)⟩
theorem rowV_one : ∀ (m : Nat) (cs : List D), m ≤ cs.length → rowV 1 m cs = cs.take m
  | 0, cs, _ => by simp [rowV]
  | m + 1, [], h => by simp at h
  | m + 1, c :: cs, h => by
    simp only [rowV, List.take_succ_cons, List.drop_succ_cons, List.drop_zero]
    rw [rowV_one m cs (by simpa using h)]
    rfl
theorem mapVL_str (n : Nat) (G : Nat → Nat → Nat → Nat → D) : ∀ (xs : List (List UInt8)), D.mapVL n G (xs.map .str) = xs.map .str
  | [] => by simp [D.mapVL]
  | x :: xs => by simp [D.mapVL, D.mapV, mapVL_str n G xs]
theorem canonL_str : ∀ (xs : List (List UInt8)), D.canonL (xs.map .str) = xs.map .str
  | [] => by simp [D.canonL]
  | x :: xs => by simp [D.canonL, D.canon, canonL_str xs]
/-- a function is left with the first texts of a row of its own -/
theorem leave_frz {A S : St} {k m : Nat} {xs : List (List UInt8)} (hk : KeepS A S) (h : TRow S k xs) (hA : A.length ≤ k) (hm : m ≤ xs.length) :
    leaveD .frz A (.ret (.vsl k 0 1 m)) S = some (.ret (encL 1 ((xs.take m).map .str)), A) := by
  have e : ((D.vsl k 0 1 m).frz A.length S) = .sl .sh 1 ((xs.take m).map .str) := by
    simp only [D.frz, D.mapV, if_neg (Nat.not_lt.2 hA)]
    unfold frzV
    rw [h]
    simp only [List.drop_zero]
    rw [rowV_one _ _ (by simpa using hm), ← List.map_take, mapVL_str]
  simp only [leaveD, Res.frz, e, Res.canon, guardP_true (keeps_kept hk), keeps_take hk]
  congr 3
  unfold encL
  simp only [D.canon, canonL_str]
  cases xs.take m with
  | nil => rfl
  | cons x r => rfl
end Go.Vm

/- Square tables of truth values: a row of rows that append has made. -/
namespace Go.Vm
open Go
set_option linter.unusedVariables false
/-- the slots behind slot k have a table's values -/
structure Tab (S : St) (k N : Nat) (m : Mt) : Prop where
  lt : k + N < S.length
  el : ∀ i, i < N → S[k + 1 + i]? = some (.cells (bits N (m i)))
section
variable {S T : St} {k N i j : Nat} {m : Mt}
theorem Tab.keeps (h : Tab S k N m) (hk : KeepS S T) : Tab T k N m :=
  ⟨Nat.lt_of_lt_of_le h.lt hk.len, fun i hi => (hk.old _ (by have := h.lt; omega)).trans (h.el i hi)⟩
theorem Tab.pres {k' N' : Nat} (h : Tab S k N m) (hp : Pres S T k' N') (hd : k + N < k' ∨ k' + N' < k) : Tab T k N m :=
  ⟨by rw [hp.len]; exact h.lt, fun i hi => (hp.old _ (by omega)).trans (h.el i hi)⟩
theorem Tab.congr {m' : Mt} (h : Tab S k N m) (he : ∀ i j, i < N → j < N → m i j = m' i j) : Tab S k N m' :=
  ⟨h.lt, fun i hi => by
    rw [h.el i hi]
    congr 2
    unfold bits
    exact List.map_congr_left fun j hj => by rw [he i j hi (List.mem_range.1 hj)]⟩
theorem tb_ix (h : i < N) (o : Own) (kd : IntKind) : indexAddrO 1 false (.sl o 1 (matRow k N)) (.int kd (i : Int)) = some (.peek [.vsl (k + 1 + i) 0 1 N]) := by
  have hl : (matRow k N).length = N := by simp [matRow]
  have he : (matRow k N)[i]? = some (.vsl (k + 1 + i) 0 1 N) := by simp [matRow, h]
  have hne : matRow k N ≠ [] := by intro e; rw [e] at hl; simp at hl; omega
  have hg : (matRow k N)[i]'(by omega) = .vsl (k + 1 + i) 0 1 N := by simp [matRow]
  simp [indexAddrO, D.int?, hl, h, hg, esOk, D.cellsT, D.cell?]
theorem tb_bit (h : Tab S k N m) (hi : i < N) (hj : j < N) : loadO false 1 (.ref (k + 1 + i) j) S = some (.bool (m i j)) := by
  simp [loadO, h.el i hi, ofCells, bits, hj]
theorem tb_sto (h : Tab S k N m) (hi : i < N) (hj : j < N) (v : Bool) : storeO false 1 (.ref (k + 1 + i) j) (.bool v) S = some (wrM S k N m i j v) := by
  have e : D.cellsT false (.bool v) = some [.bool v] := rfl
  have hl : (bits N (m i)).length = N := by simp [bits]
  have hc : ([D.bool v].length = 1 ∧ j + 1 ≤ (bits N (m i)).length) := ⟨rfl, by rw [hl]; omega⟩
  unfold storeO wrM
  rw [e]
  simp only [Option.bind_some, h.el i hi]
  rw [if_pos hc, bits_set _ _ hj]
  congr 3
  unfold bits updM
  exact List.map_congr_left fun t _ => by simp
theorem tb_wr (h : Tab S k N m) (hi : i < N) (v : Bool) : Tab (wrM S k N m i j v) k N (updM m i j v) := by
  have hl := h.lt
  refine ⟨by simpa [wrM] using hl, fun t ht => ?_⟩
  unfold wrM
  by_cases e : t = i
  · subst e
    rw [List.getElem?_set_self (by omega)]
  · rw [List.getElem?_set_ne (by omega), h.el t ht]
    congr 2
    unfold bits updM
    exact List.map_congr_left fun u _ => by simp [e]
theorem tb_wrp (hi : i < N) (v : Bool) : Pres S (wrM S k N m i j v) k N := by
  refine ⟨by simp [wrM], fun t ht => ?_⟩
  unfold wrM
  rw [List.getElem?_set_ne (by omega)]
end
theorem tb_canon {k N : Nat} (h : 0 < N) (o : Own) : (D.sl o 1 (matRow k N)).canon = .sl .sh 1 (matRow k N) := by
  have hc : ∀ (l : List Nat), D.canonL (l.map fun i => D.vsl (k + 1 + i) 0 1 N) = l.map fun i => D.vsl (k + 1 + i) 0 1 N := by
    intro l
    induction l with
    | nil => simp [D.canonL]
    | cons x l ih => simp [D.canonL, D.canon, ih]
  have hl : (matRow k N).length = N := by simp [matRow]
  have hne : matRow k N ≠ [] := by intro e; rw [e] at hl; simp at hl; omega
  cases hq : matRow k N with
  | nil => exact absurd hq hne
  | cons x r =>
    rw [← hq]
    simp only [D.canon]
    have : D.canonL (matRow k N) = matRow k N := hc _
    rw [this]
    simp [hq]
/-- the first rows of a table that is being made -/
def tabP (A : St) (N i : Nat) : St := A ++ .tok i :: List.replicate i (.cells (bits N fun _ => false))
def tabD (c N i : Nat) : D := .sl (.own c 0) 1 ((List.range i).map fun t => .vsl (c + 1 + t) 0 1 N)
theorem tabP_len (A : St) (N i : Nat) : (tabP A N i).length = A.length + 1 + i := by simp [tabP]; omega
theorem tabP_0 (A : St) (N : Nat) : A ++ [.tok 0] = tabP A N 0 := by simp [tabP]
theorem tabD_0 (c N : Nat) : D.sl (.own c 0) 1 [] = tabD c N 0 := by simp [tabD]
theorem tabP_next {A : St} {N i : Nat} (hi : i ≤ 1000000) : appendO 1 24 (tabD A.length N i) (.sl .full 1 [.vsl (tabP A N i).length 0 1 N]) (tabP A N i ++ [.cells (List.replicate N [D.bool false]).flatten]) = some (tabD A.length N (i + 1), tabP A N (i + 1)) := by
  rw [flat_false]
  have hg : (tabP A N i ++ [Slot.cells (bits N fun _ => false)])[A.length]? = some (.tok i) := by simp [tabP]
  have hr : roomOk (i + 1) 24 = true := by simp only [roomOk, decide_eq_true_eq]; omega
  unfold appendO tabD
  simp only [appendS, appendNew]
  have hes : esOk (.full) 1 1 [D.vsl (tabP A N i).length 0 1 N] = true := rfl
  have hes2 : esOk (.own A.length 0) 1 1 ((List.range i).map fun t => D.vsl (A.length + 1 + t) 0 1 N) = true := by simp [esOk]
  simp only [hes, hes2, hg, List.length_map, List.length_range, Option.bind_some]
  simp [hr, tabP, List.range_succ]
  refine ⟨?_, ?_, ?_⟩
  · omega
  · omega
  · rw [List.replicate_succ']
theorem tab_all (A : St) (N : Nat) : Tab (tabP A N N) A.length N fun _ _ => false := by
  refine ⟨by rw [tabP_len]; omega, fun i hi => ?_⟩
  unfold tabP
  rw [List.getElem?_append_right (by omega)]
  have : A.length + 1 + i - A.length = i + 1 := by omega
  rw [this, List.getElem?_cons_succ, List.getElem?_replicate, if_pos hi]
theorem tabP_keeps (A : St) (N i : Nat) : KeepS A (tabP A N i) := KeepS.app _ _
end Go.Vm
