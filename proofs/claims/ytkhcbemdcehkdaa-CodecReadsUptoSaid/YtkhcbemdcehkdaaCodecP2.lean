/- CodecP1, CodecP2 in one text. -/
import Derived.Test.YtkhcbemdcehkdaaCodecT6
import Derived.Test.YtkhcbemdcehkdaaCodecS20
set_option linter.all false
/- Plain facts of bytes: what is printed is read as the same, and what is read is printed as the same. -/
namespace Go.Vm.Codec
open Go.Proofs
set_option linter.unusedVariables false
set_option linter.unusedSimpArgs false
set_option maxRecDepth 10000
theorem foldl_num (l : List UInt8) : ∀ a : Nat, l.foldl (fun x b => x * 256 + b.toNat) a = a * 256 ^ l.length + num l := by
  unfold num
  induction l with
  | nil => intro a; simp
  | cons c r ih =>
    intro a
    rw [List.foldl_cons, List.foldl_cons, ih, ih (0 * 256 + c.toNat), List.length_cons, Nat.pow_succ, Nat.add_mul, Nat.zero_mul, Nat.zero_add, Nat.mul_assoc, Nat.mul_comm 256, Nat.add_assoc]
theorem num_cons (c : UInt8) (r : List UInt8) : num (c :: r) = c.toNat * 256 ^ r.length + num r := by
  have := foldl_num r (0 * 256 + c.toNat)
  rw [Nat.zero_mul, Nat.zero_add] at this
  unfold num at this ⊢
  rw [List.foldl_cons, Nat.zero_mul, Nat.zero_add, this]
theorem num_be (n x : Nat) : num (be n x) = x % 256 ^ n := by
  induction n with
  | zero => simp [be, num, Nat.mod_one]
  | succ n ih =>
    rw [be, num_cons, ih, be_length, Nat.mod_pow_succ]
    have : ((x / 256 ^ n).toUInt8).toNat = x / 256 ^ n % 256 := by simp
    rw [this, Nat.mul_comm, Nat.add_comm]
theorem num_be_lt {n x : Nat} (h : x < 256 ^ n) : num (be n x) = x := by rw [num_be, Nat.mod_eq_of_lt h]
theorem be_add (y x : Nat) : ∀ n m : Nat, n ≤ m → be n (y * 256 ^ m + x) = be n x := by
  intro n
  induction n with
  | zero => intro m _; rfl
  | succ n ih =>
    intro m h
    rw [be, be, ih m (by omega)]
    congr 1
    obtain ⟨k, rfl⟩ : ∃ k, m = n + 1 + k := ⟨m - (n + 1), by omega⟩
    have e : y * 256 ^ (n + 1 + k) + x = x + 256 ^ n * (256 * (y * 256 ^ k)) := by
      rw [Nat.pow_add, Nat.pow_succ, Nat.add_comm]
      congr 1
      rw [Nat.mul_comm (256 ^ n) 256, Nat.mul_assoc, Nat.mul_left_comm y, Nat.mul_left_comm y, ← Nat.mul_assoc 256, Nat.mul_comm 256 (256 ^ n), Nat.mul_assoc]
    rw [e, Nat.add_mul_div_left _ _ (Nat.pow_pos (by omega))]
    apply UInt8.toNat.inj
    simp
theorem be_num (l : List UInt8) : be l.length (num l) = l := by
  induction l with
  | nil => rfl
  | cons c r ih =>
    rw [List.length_cons, be, num_cons, be_add _ _ _ _ (Nat.le_refl _), ih, Nat.add_comm, Nat.add_mul_div_right _ _ (Nat.pow_pos (by omega)), Nat.div_eq_of_lt (num_lt r), Nat.zero_add]
    congr 1
    apply UInt8.toNat.inj
    simp
theorem be_num' {l : List UInt8} {n : Nat} (h : l.length = n) : be n (num l) = l := by subst h; exact be_num l
/-! places -/
theorem drop_of {b P R : List UInt8} {i : Nat} (n : Nat) (h : b.drop i = P ++ R) (hn : P.length = n) : b.drop (i + n) = R := by
  rw [← List.drop_drop, h, ← hn, List.drop_left]
theorem take_of {b P R : List UInt8} {i : Nat} (n : Nat) (h : b.drop i = P ++ R) (hn : P.length = n) : (b.drop i).take n = P := by rw [h, ← hn, List.take_left]
theorem len_of {b P R : List UInt8} {i : Nat} (n : Nat) (h : b.drop i = P ++ R) (hn : P.length = n) (hp : 0 < n) : i + n ≤ b.length := by
  have := congrArg List.length h
  rw [List.length_drop, List.length_append] at this
  omega
theorem split_at (b : List UInt8) (i n : Nat) (h : i + n ≤ b.length) : b.drop i = (b.drop i).take n ++ b.drop (i + n) ∧ ((b.drop i).take n).length = n := by
  refine ⟨?_, by rw [List.length_take, List.length_drop]; omega⟩
  rw [← List.drop_drop, List.take_append_drop]
theorem be_at (b : List UInt8) (i n : Nat) (h : i + n ≤ b.length) : b.drop i = be n (num ((b.drop i).take n)) ++ b.drop (i + n) ∧ num ((b.drop i).take n) < 256 ^ n := by
  have h2 := split_at b i n h
  have h3 := num_lt ((b.drop i).take n)
  rw [be_num' h2.2]
  rw [h2.2] at h3
  exact ⟨h2.1, h3⟩
theorem num_at {b R : List UInt8} {i n x : Nat} (h : b.drop i = be n x ++ R) (hx : x < 256 ^ n) (hn : 0 < n) : num ((b.drop i).take n) = x ∧ b.drop (i + n) = R ∧ i + n ≤ b.length :=
  ⟨by rw [take_of n h (be_length n x), num_be_lt hx], drop_of n h (be_length n x), len_of n h (be_length n x) hn⟩
/-! stamps -/
theorem isDev_iff (d : Int) : isDev d = true ↔ 0 ≤ d ∧ d < 256 := by simp [isDev]
theorem stsB_cons (s : Int × Nat) (w : Stamps) : stsB (s :: w) = be 2 s.1.toNat ++ (be 8 s.2 ++ stsB w) := by simp [stsB, stB]
theorem okF_cons (v : Stamps) (s : Int × Nat) (w : Stamps) (h : 0 ≤ s.1) : okF (v.getLast?.map (·.1)) (s :: w) = (isDev s.1 && (lastOk v s.1.toNat && okF ((v ++ [s]).getLast?.map (·.1)) w)) := by
  rw [List.getLast?_concat]
  unfold lastOk
  cases v.getLast? with
  | none => simp [okF]
  | some q =>
    have : ((s.1.toNat : Nat) : Int) = s.1 := by omega
    simp [okF, this]
theorem pSt_print (b : List UInt8) : ∀ (w v : Stamps) (i : Nat) (R : List UInt8), b.drop i = stsB w ++ R → okF (v.getLast?.map (·.1)) w = true → (∀ s ∈ w, s.2 < 18446744073709551616) → pSt b w.length i v = .ok (v ++ w, i + (stsB w).length) ∧ b.drop (i + (stsB w).length) = R := by
  intro w
  induction w with
  | nil => intro v i R h _ _; simpa [pSt, stsB] using h
  | cons s w ih =>
    intro v i R h ho hu
    have hd : isDev s.1 = true := by
      cases e : v.getLast?.map (·.1) with
      | none => rw [e] at ho; simp [okF] at ho; exact ho.1
      | some q => rw [e] at ho; simp [okF] at ho; exact ho.1
    have hd' := (isDev_iff _).1 hd
    rw [okF_cons v s w hd'.1, hd, Bool.true_and, Bool.and_eq_true] at ho
    have hus := hu s (by simp)
    rw [stsB_cons, List.append_assoc, List.append_assoc] at h
    obtain ⟨n1, d1, l1⟩ := num_at (n := 2) h (by have : (256 : Nat) ^ 2 = 65536 := by decide
                                                 omega) (by omega)
    obtain ⟨n2, d2, l2⟩ := num_at (n := 8) d1 (by have : (256 : Nat) ^ 8 = 18446744073709551616 := by decide
                                                  omega) (by omega)
    rw [Nat.add_assoc] at d2 l2
    obtain ⟨p, q⟩ := ih (v ++ [s]) (i + 10) R d2 ho.2 (fun t ht => hu t (by simp [ht]))
    have e : ((s.1.toNat : Int), s.2) = s := by
      have : ((s.1.toNat : Nat) : Int) = s.1 := by omega
      rw [this]
    have el : i + (stsB (s :: w)).length = i + 10 + (stsB w).length := by rw [stsB_cons]; simp; omega
    rw [el]
    refine ⟨?_, q⟩
    rw [List.length_cons, pSt, if_pos l2, n1, n2, if_pos ⟨by omega, ho.1⟩, e, p]
    simp
theorem pSt_read (b : List UInt8) : ∀ (m i : Nat) (v v' : Stamps) (j : Nat), i ≤ b.length → pSt b m i v = .ok (v', j) →
    ∃ w, v' = v ++ w ∧ w.length = m ∧ okF (v.getLast?.map (·.1)) w = true ∧ (∀ s ∈ w, s.2 < 18446744073709551616) ∧ b.drop i = stsB w ++ b.drop j := by
  intro m
  induction m with
  | zero =>
    intro i v v' j hi h
    simp only [pSt, Except.ok.injEq, Prod.mk.injEq] at h
    obtain ⟨rfl, rfl⟩ := h
    exact ⟨[], by simp, rfl, by simp [okF], by simp, by simp [stsB]⟩
  | succ m ih =>
    intro i v v' j hi h
    unfold pSt at h
    split at h
    · rename_i hl
      split at h
      · rename_i hc
        obtain ⟨w, rfl, rfl, ho, hu, hb⟩ := ih _ _ _ _ hl h
        obtain ⟨b1, u1⟩ := be_at b i 2 (by omega)
        obtain ⟨b2, u2⟩ := be_at b (i + 2) 8 (by omega)
        rw [Nat.add_assoc] at b2
        have e8 : (256 : Nat) ^ 8 = 18446744073709551616 := by decide
        rw [e8] at u2
        generalize hx : num ((b.drop i).take 2) = x at *
        generalize hy : num ((b.drop (i + 2)).take 8) = y at *
        refine ⟨((x : Int), y) :: w, by simp, rfl, ?_, ?_, ?_⟩
        · rw [okF_cons _ _ _ (by simp)]
          rw [ho]
          have : isDev (x : Int) = true := (isDev_iff _).2 ⟨by omega, by omega⟩
          simp [this, hc.2]
        · intro s hs
          rcases List.mem_cons.1 hs with rfl | hs
          · exact u2
          · exact hu s hs
        · rw [stsB_cons, b1, b2, hb]
          simp
      · cases h
    · cases h
/-! shares -/
def unf (s : Share) : Share := ⟨s.c, false, s.d⟩
structure ShOk (s : Share) : Prop where
  c0 : s.c ≠ 0
  c1 : s.c < 18446744073709551616
  d0 : s.d.length ≠ 0
  d1 : s.d.length ≤ 1048576
theorem shsB_cons (s : Share) (w : Shares) : shsB (s :: w) = be 8 s.c ++ (be 4 s.d.length ++ (s.d ++ shsB w)) := by simp [shsB, shB]
theorem pSh_print (b : List UInt8) : ∀ (w v : Shares) (i : Nat) (R : List UInt8), b.drop i = shsB w ++ R → (∀ s ∈ w, ShOk s) → pSh b w.length i v = .ok (v ++ w.map unf, i + (shsB w).length) ∧ b.drop (i + (shsB w).length) = R := by
  intro w
  induction w with
  | nil => intro v i R h _; simpa [pSh, shsB] using h
  | cons s w ih =>
    intro v i R h hu
    obtain ⟨c0, c1, d0, d1⟩ := hu s (by simp)
    rw [shsB_cons, List.append_assoc, List.append_assoc, List.append_assoc] at h
    obtain ⟨n1, r1, l1⟩ := num_at (n := 8) h (by have : (256 : Nat) ^ 8 = 18446744073709551616 := by decide
                                                 omega) (by omega)
    obtain ⟨n2, r2, l2⟩ := num_at (n := 4) r1 (by have : (256 : Nat) ^ 4 = 4294967296 := by decide
                                                  omega) (by omega)
    have t3 := take_of s.d.length r2 rfl
    have r3 := drop_of s.d.length r2 rfl
    have l3 := len_of s.d.length r2 rfl (by omega)
    rw [Nat.add_assoc i 8 4] at l2 t3 r3 l3
    obtain ⟨p, q⟩ := ih (v ++ [unf s]) (i + 12 + s.d.length) R r3 (fun t ht => hu t (by simp [ht]))
    have el : i + (shsB (s :: w)).length = i + 12 + s.d.length + (shsB w).length := by rw [shsB_cons]; simp; omega
    rw [el]
    refine ⟨?_, q⟩
    rw [List.length_cons, pSh, if_pos l1, n1, n2, if_neg c0, if_pos l2, if_pos d1, if_neg (by omega), t3]
    have : (⟨s.c, false, s.d⟩ : Share) = unf s := rfl
    rw [this, p]
    simp
theorem pSh_read (b : List UInt8) : ∀ (m i : Nat) (v v' : Shares) (j : Nat), i ≤ b.length → pSh b m i v = .ok (v', j) →
    ∃ w, v' = v ++ w ∧ w.length = m ∧ (∀ s ∈ w, ShOk s) ∧ b.drop i = shsB w ++ b.drop j := by
  intro m
  induction m with
  | zero =>
    intro i v v' j hi h
    simp only [pSh, Except.ok.injEq, Prod.mk.injEq] at h
    obtain ⟨rfl, rfl⟩ := h
    exact ⟨[], by simp, rfl, by simp, by simp [shsB]⟩
  | succ m ih =>
    intro i v v' j hi h
    unfold pSh at h
    split at h
    · rename_i hl
      split at h
      · cases h
      · rename_i hc
        split at h
        · rename_i h12
          split at h
          · rename_i hm
            split at h
            · cases h
            · rename_i h0
              obtain ⟨b1, u1⟩ := be_at b i 8 (by omega)
              obtain ⟨b2, u2⟩ := be_at b (i + 8) 4 (by omega)
              obtain ⟨b3, u3⟩ := split_at b (i + 12) (num ((b.drop (i + 8)).take 4)) (by omega)
              obtain ⟨w, rfl, rfl, ho, hb⟩ := ih _ _ _ _ (by omega) h
              rw [Nat.add_assoc] at b2
              have e8 : (256 : Nat) ^ 8 = 18446744073709551616 := by decide
              rw [e8] at u1
              generalize hy : (b.drop (i + 12)).take (num ((b.drop (i + 8)).take 4)) = y at *
              generalize hx : num ((b.drop i).take 8) = x at *
              generalize hz : num ((b.drop (i + 8)).take 4) = z at *
              subst u3
              refine ⟨⟨x, false, y⟩ :: w, by simp, rfl, ?_, ?_⟩
              · intro s hs
                rcases List.mem_cons.1 hs with rfl | hs
                · exact ⟨hc, u1, by simp only; omega, hm⟩
                · exact ho s hs
              · rw [shsB_cons, b1, b2, b3, hb]
                simp
          · cases h
        · cases h
    · cases h
end Go.Vm.Codec

/- Plain facts of the bytes of results and of frames. -/
namespace Go.Vm.Codec
open Go.Proofs
set_option linter.unusedVariables false
set_option linter.unusedSimpArgs false
set_option maxRecDepth 10000
theorem stsB_len (v : Stamps) : (stsB v).length = 10 * v.length := by
  induction v with
  | nil => rfl
  | cons s w ih => rw [stsB_cons]; simp [ih]; omega
theorem shsB_len (l : Shares) : (shsB l).length = szS l := by
  induction l with
  | nil => rfl
  | cons s w ih => rw [shsB_cons, szS]; simp [ih]; omega
theorem okF_len : ∀ (v : Stamps) (q : Int), 0 ≤ q → q < 256 → okF (some q) v = true → (v.length : Int) ≤ 255 - q := by
  intro v
  induction v with
  | nil => intro q _ _ _; simp; omega
  | cons s w ih =>
    intro q h0 h1 h
    simp only [okF, Bool.and_eq_true, decide_eq_true_eq] at h
    obtain ⟨a, b⟩ := (isDev_iff _).1 h.1
    have := ih s.1 a b h.2.2
    simp; omega
theorem vecOk_len {v : Stamps} (h : vecOk v = true) : v.length ≤ 256 := by
  rw [← okF_none] at h
  cases v with
  | nil => simp
  | cons s w =>
    simp only [okF, Bool.and_eq_true] at h
    obtain ⟨a, b⟩ := (isDev_iff _).1 h.1
    have := okF_len w s.1 a b h.2
    simp; omega
theorem dumpE_all : ∀ (sh : Shares) (n : Nat), (∀ s ∈ sh, s.d.length ≠ 0) → dumpE n sh = sizeE (n + szS sh) := by
  intro sh
  induction sh with
  | nil => intro n _; rfl
  | cons s w ih =>
    intro n h
    rw [dumpE, if_neg (h s (by simp)), ih _ (fun t ht => h t (by simp [ht])), szS]
    congr 1; omega
theorem cntE_all (all : Shares) (n : Nat) : ∀ (sh : Shares), (∀ s ∈ sh, s.c ≠ 0) → cntE n all sh = dumpE n all := by
  intro sh
  induction sh with
  | nil => intro _; rfl
  | cons s w ih => intro h; rw [cntE, if_neg (h s (by simp)), ih (fun t ht => h t (by simp [ht]))]
theorem dumpE_zero : ∀ (sh : Shares) (n : Nat), dumpE n sh = 0 → ∀ s ∈ sh, s.d.length ≠ 0 := by
  intro sh
  induction sh with
  | nil => intro n _ s hs; cases hs
  | cons s w ih =>
    intro n h t ht
    rw [dumpE] at h
    split at h
    · cases h
    · rename_i h0
      rcases List.mem_cons.1 ht with rfl | ht
      · exact h0
      · exact ih _ h t ht
theorem cntE_zero (all : Shares) (n : Nat) : ∀ (sh : Shares), cntE n all sh = 0 → (∀ s ∈ sh, s.c ≠ 0) ∧ dumpE n all = 0 := by
  intro sh
  induction sh with
  | nil => intro h; exact ⟨fun s hs => (by cases hs), h⟩
  | cons s w ih =>
    intro h
    rw [cntE] at h
    split at h
    · cases h
    · rename_i h0
      refine ⟨fun t ht => ?_, (ih h).2⟩
      rcases List.mem_cons.1 ht with rfl | ht
      · exact h0
      · exact (ih h).1 t ht
theorem szS_mem {sh : Shares} {s : Share} (h : s ∈ sh) : s.d.length ≤ szS sh := by
  induction sh with
  | nil => cases h
  | cons t w ih =>
    rw [szS]
    rcases List.mem_cons.1 h with rfl | h
    · omega
    · have := ih h; omega
theorem chk_shOk {inv node : Int} {v : Stamps} {sh : Shares} (h : chkE inv node v sh = 0) (hu : ∀ s ∈ sh, s.c < 18446744073709551616) : ∀ s ∈ sh, ShOk s := by
  have f := chk_fine h
  have h2 : cntE (11 + 10 * v.length) sh sh = 0 := by
    unfold chkE at h
    split at h
    · cases h
    · split at h
      · split at h
        · cases h
        · exact h
      · cases h
  have h3 := cntE_zero _ _ _ h2
  have h4 := dumpE_zero _ _ h3.2
  intro s hs
  have := szS_mem hs
  have := f.z
  exact ⟨h3.1 s hs, hu s hs, h4 s hs, by omega⟩
theorem chk_zero {inv node : Int} {v : Stamps} {sh : Shares} (h1 : 0 ≤ inv) (h2 : inv < 64) (h3 : 0 ≤ node) (h4 : node < 16384) (h5 : vecOk v = true) (h6 : sh.length ≤ 256) (h7 : ∀ s ∈ sh, ShOk s) (h8 : 11 + 10 * v.length + szS sh ≤ 1048576) : chkE inv node v sh = 0 := by
  unfold chkE
  rw [if_neg (by omega), if_pos h5, if_neg (by omega), cntE_all _ _ _ (fun s hs => (h7 s hs).c0), dumpE_all _ _ (fun s hs => (h7 s hs).d0), sizeE, if_neg (by omega)]
theorem resBytes_eq (inv node : Int) (v : Stamps) (l : Shares) (t : List UInt8) : resBytes inv node v l ++ t = 82 :: (be 2 inv.toNat ++ (be 4 node.toNat ++ (be 2 v.length ++ (stsB v ++ (be 2 l.length ++ (shsB l ++ t)))))) := by simp [resBytes]
theorem resBytes_len (inv node : Int) (v : Stamps) (l : Shares) : (resBytes inv node v l).length = 11 + 10 * v.length + szS l := by
  have := congrArg List.length (resBytes_eq inv node v l [])
  simp [stsB_len, shsB_len] at this
  omega
theorem e2 : (256 : Nat) ^ 2 = 65536 := by decide
theorem e4 : (256 : Nat) ^ 4 = 4294967296 := by decide
theorem e8 : (256 : Nat) ^ 8 = 18446744073709551616 := by decide
theorem pRes_print {inv node : Int} {v : Stamps} {sh : Shares} (hE : chkE inv node v sh = 0) (hu : ∀ s ∈ sh, s.c < 18446744073709551616) (hvu : ∀ s ∈ v, s.2 < 18446744073709551616) (t : List UInt8) (ht : (resBytes inv node v sh ++ t).length ≤ 1048576) :
    pRes (resBytes inv node v sh ++ t) = if t = [] then .ok (inv.toNat, node.toNat, v, sh.map unf) else .error ((resBytes inv node v sh).length, 180) := by
  have f := chk_fine hE
  have hl : (resBytes inv node v sh ++ t).length = (resBytes inv node v sh).length + t.length := by simp
  have hl2 := resBytes_len inv node v sh
  rw [resBytes_eq] at ht hl ⊢
  generalize hb : (82 :: (be 2 inv.toNat ++ (be 4 node.toNat ++ (be 2 v.length ++ (stsB v ++ (be 2 sh.length ++ (shsB sh ++ t)))))) : List UInt8) = b at *
  have d1 : b.drop 1 = be 2 inv.toNat ++ (be 4 node.toNat ++ (be 2 v.length ++ (stsB v ++ (be 2 sh.length ++ (shsB sh ++ t))))) := by rw [← hb]; rfl
  have b0 : b[0]? = some 82 := by rw [← hb]; rfl
  have := f.i0; have := f.i1; have := f.n0; have := f.n1; have := f.l; have := vecOk_len f.w
  obtain ⟨n1, d3, l3⟩ := num_at (n := 2) d1 (by have := e2; omega) (by omega)
  obtain ⟨n3, d7, l7⟩ := num_at (n := 4) d3 (by have := e4; omega) (by omega)
  obtain ⟨n7, d9, l9⟩ := num_at (n := 2) d7 (by have := e2; omega) (by omega)
  obtain ⟨p9, dv⟩ := pSt_print b v [] _ _ d9 (by rw [List.getLast?_nil, Option.map_none, okF_none]; exact f.w) hvu
  obtain ⟨nv, ds, ls⟩ := num_at (n := 2) dv (by have := e2; omega) (by omega)
  obtain ⟨ps, dt⟩ := pSh_print b sh [] _ _ ds (chk_shOk hE hu)
  have hv : pVec b 7 = .ok (v, 9 + (stsB v).length) := by
    unfold pVec
    have n7' : num ((b.drop 7).take 2) = v.length := n7
    rw [if_pos l9, n7', if_pos (by omega)]
    exact p9
  have hs : pShs b (9 + (stsB v).length) = .ok (sh.map unf, 9 + (stsB v).length + 2 + (shsB sh).length) := by
    unfold pShs
    have nv' : num ((b.drop (9 + (stsB v).length)).take 2) = sh.length := nv
    rw [if_pos ls, nv', if_pos (by omega)]
    exact ps
  have n3' : num ((b.drop 3).take 4) = node.toNat := n3
  unfold pRes
  rw [if_neg (by omega), if_neg (by simp [b0]), if_neg (by omega), n1, if_neg (by omega), if_neg (by omega), n3', if_neg (by omega), hv]
  simp only [hs]
  have hpos : 9 + (stsB v).length + 2 + (shsB sh).length = (resBytes inv node v sh).length := by rw [stsB_len, shsB_len]; omega
  rw [hpos, hl]
  cases t with
  | nil => simp
  | cons c r => simp
theorem pRes_read {b : List UInt8} {i n : Nat} {v : Stamps} {sh : Shares} (h : pRes b = .ok (i, n, v, sh)) :
    b = resBytes i n v sh ∧ chkE i n v sh = 0 ∧ (∀ s ∈ sh, s.c < 18446744073709551616) ∧ (∀ s ∈ v, s.2 < 18446744073709551616) := by
  unfold pRes at h
  split at h
  · cases h
  rename_i hl
  split at h
  · cases h
  rename_i h0
  split at h
  · cases h
  rename_i h3
  split at h
  · cases h
  rename_i hi
  split at h
  · cases h
  rename_i h7
  split at h
  · cases h
  rename_i hn
  split at h
  · cases h
  rename_i v1 j1 hv
  split at h
  · cases h
  rename_i sh1 j2 hs
  split at h
  · cases h
  rename_i hj
  simp only [Except.ok.injEq, Prod.mk.injEq] at h
  obtain ⟨rfl, rfl, rfl, rfl⟩ := h
  simp only [Decidable.not_not] at h0 h3 hi h7 hn
  have hj1 := pVec_le b 7 _ _ hv
  have hj2 := pShs_le b j1 _ _ hs
  unfold pVec at hv
  split at hv
  · rename_i h9
    split at hv
    · rename_i hvn
      obtain ⟨w, e, hw, ho, hu, hb⟩ := pSt_read b _ _ _ _ _ h9 hv
      rw [List.nil_append] at e
      subst e
      rw [List.getLast?_nil, Option.map_none, okF_none] at ho
      unfold pShs at hs
      split at hs
      · rename_i hs2
        split at hs
        · rename_i hsn
          obtain ⟨w', e', hw', ho', hb'⟩ := pSh_read b _ _ _ _ _ hs2 hs
          rw [List.nil_append] at e'
          subst e'
          obtain ⟨b1, _⟩ := be_at b 1 2 (by omega)
          obtain ⟨b3, _⟩ := be_at b 3 4 (by omega)
          obtain ⟨b7, _⟩ := be_at b 7 2 (by omega)
          obtain ⟨bj, _⟩ := be_at b j1 2 (by omega)
          have hend : b.drop j2 = [] := List.drop_of_length_le (by omega)
          have hb0 : b = 82 :: b.drop 1 := by
            cases b with
            | nil => cases h0
            | cons c r => simp only [List.getElem?_cons_zero, Option.some.injEq] at h0; subst h0; rfl
          have key : b = resBytes (num ((b.drop 1).take 2) : Nat) (num ((b.drop 3).take 4) : Nat) v1 sh1 := by
            have := resBytes_eq (num ((b.drop 1).take 2) : Nat) (num ((b.drop 3).take 4) : Nat) v1 sh1 []
            rw [List.append_nil] at this
            rw [this, Int.toNat_natCast, Int.toNat_natCast, hw, hw']
            have hbj : b.drop (j1 + 2) = shsB sh1 := by rw [hb', hend, List.append_nil]
            have b1' : b.drop 1 = be 2 (num ((b.drop 1).take 2)) ++ b.drop 3 := b1
            have b3' : b.drop 3 = be 4 (num ((b.drop 3).take 4)) ++ b.drop 7 := b3
            rw [List.append_nil, ← hbj, ← bj, ← hb, ← b7, ← b3', ← b1']
            exact hb0
          refine ⟨key, ?_, fun s hs => (ho' s hs).c1, hu⟩
          have hlen := congrArg List.length key
          rw [resBytes_len] at hlen
          exact chk_zero (by omega) (by omega) (by omega) (by omega) ho (by omega) ho' (by omega)
        · cases hs
      · cases hs
    · cases hv
  · cases hv
/-! frames -/
structure Fr where
  k : Nat
  f : Nat
  t : Nat
  s : Nat
  a : Nat
  body : List UInt8
  deriving DecidableEq
structure Fr.Ok (x : Fr) : Prop where
  k : x.k < 256
  f : x.f < 4294967296
  t : x.t < 4294967296
  s : x.s < 18446744073709551616
  a : x.a < 18446744073709551616
def Fr.bytes (x : Fr) : List UInt8 := frameBytes x.k x.f x.t x.s x.a x.body
/-- the frame of any bytes, or the first fault -/
def pFr (b : List UInt8) : Except (Nat × Int) Fr :=
  if b[0]? ≠ some 70 then .error (0, 180)
  else if b.length < 30 then .error (b.length, 180)
  else if ¬ num ((b.drop 26).take 4) ≤ 65536 then .error (26, 180)
  else if b.length < 30 + num ((b.drop 26).take 4) then .error (b.length, 180)
  else if 30 + num ((b.drop 26).take 4) < b.length then .error (30 + num ((b.drop 26).take 4), 180)
  else .ok ⟨num ((b.drop 1).take 1), num ((b.drop 2).take 4), num ((b.drop 6).take 4), num ((b.drop 10).take 8), num ((b.drop 18).take 8), b.drop 30⟩
theorem be1 (x : Nat) : be 1 x = [x.toUInt8] := by simp [be]
theorem bytes_eq (x : Fr) (r : List UInt8) : x.bytes ++ r = 70 :: (be 1 x.k ++ (be 4 x.f ++ (be 4 x.t ++ (be 8 x.s ++ (be 8 x.a ++ (be 4 x.body.length ++ (x.body ++ r))))))) := by
  simp [Fr.bytes, frameBytes, beL, be1]
theorem bytes_len (x : Fr) : x.bytes.length = 30 + x.body.length := by
  have := congrArg List.length (bytes_eq x [])
  simp at this
  omega
theorem pFr_print {x : Fr} (h : x.Ok) (hb : x.body.length ≤ 65536) (r : List UInt8) : pFr (x.bytes ++ r) = if r = [] then .ok x else .error (30 + x.body.length, 180) := by
  have hl := bytes_len x
  have hl2 : (x.bytes ++ r).length = 30 + x.body.length + r.length := by simp [hl]
  rw [bytes_eq] at hl2 ⊢
  generalize hc : (70 :: (be 1 x.k ++ (be 4 x.f ++ (be 4 x.t ++ (be 8 x.s ++ (be 8 x.a ++ (be 4 x.body.length ++ (x.body ++ r))))))) : List UInt8) = b at *
  have d1 : b.drop 1 = be 1 x.k ++ (be 4 x.f ++ (be 4 x.t ++ (be 8 x.s ++ (be 8 x.a ++ (be 4 x.body.length ++ (x.body ++ r)))))) := by rw [← hc]; rfl
  have b0 : b[0]? = some 70 := by rw [← hc]; rfl
  have := h.k; have := h.f; have := h.t; have := h.s; have := h.a
  obtain ⟨n1, d2, _⟩ := num_at (n := 1) d1 (by omega) (by omega)
  obtain ⟨n2, d6, _⟩ := num_at (n := 4) d2 (by have := e4; omega) (by omega)
  obtain ⟨n6, d10, _⟩ := num_at (n := 4) d6 (by have := e4; omega) (by omega)
  obtain ⟨n10, d18, _⟩ := num_at (n := 8) d10 (by have := e8; omega) (by omega)
  obtain ⟨n18, d26, _⟩ := num_at (n := 8) d18 (by have := e8; omega) (by omega)
  obtain ⟨n26, d30, _⟩ := num_at (n := 4) d26 (by have := e4; omega) (by omega)
  simp only [Nat.reduceAdd] at n1 n2 n6 n10 n18 n26 d30
  unfold pFr
  rw [if_neg (by simp [b0]), if_neg (by omega), n26, if_neg (by omega), if_neg (by omega), n1, n2, n6, n10, n18, d30, hl2]
  cases r with
  | nil => simp
  | cons c r => simp
theorem pFr_read {b : List UInt8} {x : Fr} (h : pFr b = .ok x) : b = x.bytes ∧ x.Ok ∧ x.body.length ≤ 65536 := by
  unfold pFr at h
  split at h
  · cases h
  rename_i h0
  split at h
  · cases h
  rename_i h30
  split at h
  · cases h
  rename_i hn
  split at h
  · cases h
  rename_i hl
  split at h
  · cases h
  rename_i hm
  simp only [Except.ok.injEq] at h
  simp only [Decidable.not_not] at h0 hn
  have hb0 : b = 70 :: b.drop 1 := by
    cases b with
    | nil => cases h0
    | cons c r => simp only [List.getElem?_cons_zero, Option.some.injEq] at h0; subst h0; rfl
  obtain ⟨b1, u1⟩ := be_at b 1 1 (by omega)
  obtain ⟨b2, u2⟩ := be_at b 2 4 (by omega)
  obtain ⟨b6, u6⟩ := be_at b 6 4 (by omega)
  obtain ⟨b10, u10⟩ := be_at b 10 8 (by omega)
  obtain ⟨b18, u18⟩ := be_at b 18 8 (by omega)
  obtain ⟨b26, u26⟩ := be_at b 26 4 (by omega)
  simp only [Nat.reduceAdd] at b1 b2 b6 b10 b18 b26
  rw [e4] at u2 u6
  rw [e8] at u10 u18
  have hlen : (b.drop 30).length = num ((b.drop 26).take 4) := by rw [List.length_drop]; omega
  subst h
  refine ⟨?_, ⟨by simpa using u1, u2, u6, u10, u18⟩, by simp only; omega⟩
  have := bytes_eq ⟨num ((b.drop 1).take 1), num ((b.drop 2).take 4), num ((b.drop 6).take 4), num ((b.drop 10).take 8), num ((b.drop 18).take 8), b.drop 30⟩ []
  rw [List.append_nil] at this
  rw [this]
  simp only [List.append_nil]
  rw [hlen, ← b26, ← b18, ← b10, ← b6, ← b2, ← b1]
  exact hb0
end Go.Vm.Codec
