/- VmPure3, VmPure4 in one text. -/
import Derived.Test.YtikjlgcbcljehaaGreatDoorVmPure2
set_option linter.all false
/- Each pure operation, third part. -/
namespace Go.Vm
open Go.RowKit
set_option linter.unusedVariables false
variable {P : Program}

/-! conversions -/
theorem bytesD_map : ∀ {ds : List D} {s : List UInt8}, bytesD ds = some s → ∃ ns : List Int, ds = ns.map (D.int .u8) ∧ s = ns.map fun n => n.toNat.toUInt8
  | [], s, h => by simp only [bytesD, Option.some.injEq] at h; subst h; exact ⟨[], rfl, rfl⟩
  | d :: ds, s, h => by
    unfold bytesD at h
    split at h
    · rename_i e; simp at e
    · rename_i n r e
      simp only [List.cons.injEq] at e
      obtain ⟨rfl, rfl⟩ := e
      simp only [Option.map_eq_some_iff] at h
      obtain ⟨s', h, rfl⟩ := h
      obtain ⟨ns, rfl, rfl⟩ := bytesD_map h
      exact ⟨n :: ns, rfl, rfl⟩
    · cases h
theorem foldl_push (ns : List Int) : ∀ (s : ByteArray), (ns.foldl (fun r n => r.push (UInt8.ofNat n.toNat)) s).data.toList = s.data.toList ++ ns.map fun n => n.toNat.toUInt8 := by
  induction ns with
  | nil => intro s; simp
  | cons n ns ih => intro s; simp only [List.foldl_cons, ih]; simp [ByteArray.push]
theorem repL_ints {gh : Gh} {w : World} {k : IntKind} : ∀ {ns : List Int} {vs : List Value}, RepL gh w (ns.map (D.int k)) vs → vs = ns.map (Value.int k)
  | [], vs, h => by simpa [RepL] using h
  | n :: ns, vs, h => by
    simp only [List.map_cons, RepL, Rep] at h
    obtain ⟨v, r, rfl, rfl, h⟩ := h
    rw [repL_ints h]; rfl
theorem add_off (b o n : Nat) : (⟨b, o, none⟩ : Addr).add n = ⟨b, o + n, none⟩ := by unfold Addr.add; split <;> simp_all
/-- the cells of a row of one-cell elements -/
theorem RepRow.loads {gh : Gh} {w : World} {b es : Nat} {ds : List D} {off : Nat} (h : RepRow gh w b es ds off) :
    ∃ vss : List Value, vss.length = ds.length ∧ RepL gh w ds vss ∧ (∀ v ∈ vss, VC es v) ∧
      ∀ j v, (vss.flatMap fun v => v.cells.toList)[j]? = some v → gh.stab b (off + j) ∧ w.cell? ⟨b, off + j, none⟩ = some v := by
  induction ds generalizing off with
  | nil => exact ⟨[], rfl, by simp [RepL], by simp, by simp⟩
  | cons d ds ih =>
    simp only [RepRow] at h
    obtain ⟨⟨v, h1, h2, h3⟩, h4⟩ := h
    obtain ⟨vss, k1, k2, k3, k4⟩ := ih h4
    refine ⟨v :: vss, by simp [k1], by simp only [RepL]; exact ⟨v, vss, rfl, h1, k2⟩, fun u hu => by
      rcases List.mem_cons.1 hu with rfl | hu
      · exact h2
      · exact k3 u hu, fun j u hj => ?_⟩
    simp only [List.flatMap_cons] at hj
    rw [List.getElem?_append] at hj
    split at hj
    · rename_i hlt
      simp only [Array.length_toList] at hlt
      have := h3 j (h2.1 ▸ hlt)
      refine ⟨this.1, this.2.trans ?_⟩
      simpa using hj
    · rename_i hge
      simp only [Array.length_toList, Nat.not_lt] at hge
      have := k4 _ u hj
      rw [h2.1] at hge
      have e : off + es + (j - es) = off + j := by omega
      rwa [Array.length_toList, h2.1, e] at this
theorem flat_ints (k : IntKind) (ns : List Int) : ((ns.map (Value.int k)).flatMap fun v => v.cells.toList) = ns.map (Value.int k) := by
  induction ns with
  | nil => rfl
  | cons n ns ih => simpa [Value.cells] using ih
theorem conv_sim {s t : TypeId} {x d : D} (h : convD P s t x = some d) {gh : Gh} {w : World} {u : Value} (hx : Rep gh w x u) :
    ∃ z, (convert s t u).run P w = .ok z w ∧ Rep gh w d z := by
  unfold convD convK at h
  split at h
  · rename_i hs ht
    simp only [convO, convInt, Option.map_eq_some_iff] at h
    obtain ⟨p, hp, rfl⟩ := h
    have := int?_rep hp hx
    subst this
    simp [convert, run_underlying hs, run_underlying ht, Conv.intToInt, Rep]
  · rename_i hs ht
    simp only [convO, convStr, Option.map_eq_some_iff] at h
    obtain ⟨p, hp, rfl⟩ := h
    have := str?_rep hp hx
    subst this
    simp [convert, run_underlying hs, run_underlying ht, Rep]
  · rename_i e hs ht
    split at h
    · rename_i he
      simp only [convO, convBytesStr] at h
      split at h
      · rename_i o es ds
        split at h
        · rename_i hes
          simp only [Option.map_eq_some_iff] at h
          obtain ⟨s', hb, rfl⟩ := h
          simp only [Rep] at hx
          obtain ⟨a, cap, rfl, hc, ho, hr⟩ := hx
          rw [run_convert_bytes_string w s t e a ds.length cap hs he ht]
          cases ds with
          | nil =>
            simp only [bytesD, Option.some.injEq] at hb
            subst hb
            cases a with
            | none => exact ⟨.string .empty, by simp [Conv.bytesToString], by simp only [Rep]; exact ⟨_, rfl, rfl⟩⟩
            | some a =>
              refine ⟨_, run_bytesToString w a 0 cap [] (by simp [loadCells, loadCellsFrom]), ?_⟩
              simp only [Rep]
              exact ⟨_, rfl, rfl⟩
          | cons d ds =>
            obtain ⟨b, off, rfl, hrow⟩ := hr (by simp)
            have hes1 : es = 1 := by simpa [esOk] using hes
            subst hes1
            obtain ⟨ns, hns, rfl⟩ := bytesD_map hb
            obtain ⟨vss, k1, k2, k3, k4⟩ := hrow.loads
            rw [hns] at k2
            have hv := repL_ints k2
            subst hv
            have hfl := flat_ints .u8 ns
            refine ⟨_, run_bytesToString w _ _ cap ns ?_, ?_⟩
            · rw [← k1]
              refine run_loadCells_list w _ _ fun j v hj => ?_
              rw [add_off]
              exact (k4 j v (by rw [hfl]; exact hj)).2
            · simp only [Rep]
              refine ⟨_, rfl, ?_⟩
              rw [foldl_push]
              simp
        · cases h
      · cases h
    · simp [convO] at h
  · simp [convO] at h

/-! slices -/
theorem optInt_rep {gh : Gh} {w : World} {o : Option D} {x : Option Int} (h : optInt o = some x) {u : Option Value} (hr : ∀ d, o = some d → ∃ v, u = some v ∧ Rep gh w d v) (hn : o = none → u = none) :
    (x = none ∧ u = none) ∨ ∃ k n, x = some n ∧ u = some (.int k n) := by
  cases o with
  | none => simp only [optInt, Option.some.injEq] at h; exact .inl ⟨h.symm, hn rfl⟩
  | some d =>
    simp only [optInt, Option.map_eq_some_iff] at h
    obtain ⟨p, hp, rfl⟩ := h
    obtain ⟨v, rfl, hv⟩ := hr d rfl
    exact .inr ⟨p.1, p.2, rfl, by rw [int?_rep hp hv]⟩
theorem bounds_sim {lo hi mx : Option Int} {ul uh um : Option Value} (hl : (lo = none ∧ ul = none) ∨ ∃ k n, lo = some n ∧ ul = some (.int k n))
    (hh : (hi = none ∧ uh = none) ∨ ∃ k n, hi = some n ∧ uh = some (.int k n)) (hm : (mx = none ∧ um = none) ∨ ∃ k n, mx = some n ∧ um = some (.int k n))
    (isS : Bool) (len cap : Nat) (hc : len ≤ cap) (w : World)
    (hb : 0 ≤ lo.getD 0 ∧ lo.getD 0 ≤ hi.getD len ∧ hi.getD len ≤ mx.getD len ∧ mx.getD len ≤ len ∧ (mx.isSome → hi.isSome)) :
    (Instr.sliceBounds isS len cap ul uh um).run P w = .ok ((lo.getD 0).toNat, (hi.getD len).toNat, (match mx with | some m => m.toNat | none => cap)) w := by
  obtain ⟨b1, b2, b3, b4, b5⟩ := hb
  rcases hm with ⟨rfl, rfl⟩ | ⟨km, m, rfl, rfl⟩ <;> rcases hh with ⟨rfl, rfl⟩ | ⟨kh, h, rfl, rfl⟩ <;> rcases hl with ⟨rfl, rfl⟩ | ⟨kl, l, rfl, rfl⟩ <;>
    simp only [Option.getD_some, Option.getD_none, Option.isSome_some, Option.isSome_none, forall_const, Bool.false_eq_true, imp_false] at b1 b2 b3 b4 b5
  · simp [Instr.sliceBounds]
  · have := run_sliceBound (P := P) w kl l len .sliceB b1 (by omega)
    simp [Instr.sliceBounds, this]
  · have := run_sliceBound (P := P) w kh h cap (if isS then .sliceAcap else .sliceAlen) (by omega) (by omega)
    simp [Instr.sliceBounds, this]
  · have h1 := run_sliceBound (P := P) w kh h cap (if isS then .sliceAcap else .sliceAlen) (by omega) (by omega)
    have h2 := run_sliceBound (P := P) w kl l h.toNat .sliceB b1 (by omega)
    simp [Instr.sliceBounds, h1, h2]
  · have h1 := run_sliceBound (P := P) w km m cap (if isS then .slice3Acap else .slice3Alen) (by omega) (by omega)
    have h2 := run_sliceBound (P := P) w kh h m.toNat .slice3B (by omega) (by omega)
    simp [Instr.sliceBounds, h1, h2]
  · have h1 := run_sliceBound (P := P) w km m cap (if isS then .slice3Acap else .slice3Alen) (by omega) (by omega)
    have h2 := run_sliceBound (P := P) w kh h m.toNat .slice3B (by omega) (by omega)
    have h3 := run_sliceBound (P := P) w kl l h.toNat .slice3C (by omega) (by omega)
    simp [Instr.sliceBounds, h1, h2, h3]
theorem RepRow.sub {gh : Gh} {w : World} {b es : Nat} {ds : List D} {off : Nat} (h : RepRow gh w b es ds off) (l n : Nat) : RepRow gh w b es ((ds.take n).drop l) (off + l * es) :=
  RepRow.of_get fun i d hi => by
    rw [List.getElem?_drop, List.getElem?_take] at hi
    split at hi
    · have := h.get hi
      have e : off + (l + i) * es = off + l * es + i * es := by rw [Nat.add_mul]; omega
      rwa [e] at this
    · cases hi
theorem slice_sim {t : TypeId} {x d : D} {lo hi mx : Option D} (h : sliceD P t x lo hi mx = some d) {gh : Gh} {w : World} {u : Value} (hx : Rep gh w x u) {ul uh um : Option Value}
    (hl : ∀ d, lo = some d → ∃ v, ul = some v ∧ Rep gh w d v) (hl0 : lo = none → ul = none) (hh : ∀ d, hi = some d → ∃ v, uh = some v ∧ Rep gh w d v) (hh0 : hi = none → uh = none)
    (hm : ∀ d, mx = some d → ∃ v, um = some v ∧ Rep gh w d v) (hm0 : mx = none → um = none) :
    ∃ z, (Instr.sliceAt t u ul uh um).run P w = .ok z w ∧ Rep gh w d z := by
  simp only [sliceD, Option.bind_eq_some_iff] at h
  obtain ⟨ut, hu, h⟩ := h
  split at h
  · simp only [sliceStrO, Option.bind_eq_some_iff] at h
    obtain ⟨l, h1, hq, h2, h⟩ := h
    have hL := optInt_rep h1 hl hl0
    have hH := optInt_rep h2 hh hh0
    split at h
    · have hM : ((none : Option Int) = none ∧ um = none) ∨ ∃ k n, (none : Option Int) = some n ∧ um = some (.int k n) := .inl ⟨rfl, hm0 rfl⟩
      simp only [Option.bind_eq_some_iff] at h
      obtain ⟨s, hs, h⟩ := h
      have := str?_rep hs hx
      subst this
      unfold sliceStr at h
      simp only at h
      split at h
      · rename_i hb
        cases h
        have hb' := bounds_sim (P := P) hL hH hM false s.length s.length (Nat.le_refl _) w ⟨hb.1, hb.2.1, hb.2.2, by simp, by simp⟩
        have hmx : um = none := by rcases hM with ⟨_, h⟩ | ⟨_, _, h, _⟩; exact h; cases h
        subst hmx
        have hsz : (ByteArray.mk s.toArray).size = s.length := by simp [ByteArray.size]
        refine ⟨.string ((ByteArray.mk s.toArray).extract (l.getD 0).toNat (hq.getD s.length).toNat), ?_, ?_⟩
        · simp [Instr.sliceAt, Instr.slice, run_underlying hu, hsz, hb']
        · simp only [Rep]
          refine ⟨_, rfl, ?_⟩
          rw [ByteArray.data_extract, Array.toList_extract, List.extract_eq_take_drop]
          simp only [List.drop_take]
      · cases h
    · cases h
  · rename_i e
    simp only [sliceSlO, Option.bind_eq_some_iff] at h
    obtain ⟨n, hn, l, h1, hq, h2, m, h3, h⟩ := h
    have hL := optInt_rep h1 hl hl0
    have hH := optInt_rep h2 hh hh0
    have hM := optInt_rep h3 hm hm0
    split at h
    · rename_i o es ds
      split at h
      · rename_i hes
        unfold sliceSl at h
        simp only at h
        split at h
        · rename_i hb
          cases h
          simp only [Rep] at hx
          obtain ⟨a, cap, rfl, hc, ho, hr⟩ := hx
          have hb' := bounds_sim (P := P) hL hH hM true ds.length cap hc w hb
          obtain ⟨b1, b2, b3, b4, b5⟩ := hb
          have hrun : ∀ mm, (Instr.sliceBounds true ds.length cap ul uh um).run P w = .ok ((l.getD 0).toNat, (hq.getD ds.length).toNat, mm) w →
              (Instr.sliceAt t (.slice a ds.length cap) ul uh um).run P w = .ok (.slice (if mm = (l.getD 0).toNat then a else a.map (·.add ((l.getD 0).toNat * n))) ((hq.getD ds.length).toNat - (l.getD 0).toNat) (mm - (l.getD 0).toNat)) w := by
            intro mm hmm
            simp [Instr.sliceAt, Instr.slice, run_underlying hu, hmm, tySize_some hn]
          refine ⟨_, hrun _ hb', ?_⟩
          have hlen : ((ds.take (hq.getD ds.length).toNat).drop (l.getD 0).toNat).length = (hq.getD ds.length).toNat - (l.getD 0).toNat := by simp; omega
          generalize hL' : (l.getD 0).toNat = L at *
          generalize hH' : (hq.getD ds.length).toNat = H at *
          have hLH : L ≤ H := by omega
          have hHn : H ≤ ds.length := by omega
          simp only [Rep]
          refine ⟨_, _, by rw [hlen], ?_, ?_, fun hne => ?_⟩
          · rw [hlen]
            cases m with
            | none => simp only; omega
            | some m => simp only at b3 b4 ⊢; simp only [Option.getD_some] at b3 b4; omega
          · rw [hlen]
            unfold sliceOwn
            cases m with
            | some m =>
              simp only [Option.map_some]
              split
              · rename_i he
                simp only [OwnOk]
                omega
              · trivial
            | none =>
              simp only [Option.map_none]
              split
              · rename_i he
                cases o with
                | sh => trivial
                | full => simp only [OwnOk] at ho ⊢; omega
                | own c s =>
                  refine ⟨ho.1, fun r q hq' => ?_⟩
                  obtain ⟨h5, h6⟩ := ho.2 r q hq'
                  refine ⟨by omega, fun he2 => ?_⟩
                  rcases h6 (by omega) with h7 | ⟨b, e', lim, off, rfl, rfl, h8, h9⟩
                  · exact .inl (by omega)
                  · by_cases hcl : cap = L
                    · exact .inl (by omega)
                    · have hesn : es = n := by
                        have := hes.2
                        simpa [esOk, Own.isOwn] using this
                      subst hesn
                      refine .inr ⟨b, e', lim, off + L * es, rfl, by simp [hcl, add_off], ?_, ?_⟩
                      · have : L * es + (H - L) * es = ds.length * es := by rw [← Nat.add_mul]; congr 1; omega
                        omega
                      · have : L * es + (cap - L) * es = cap * es := by rw [← Nat.add_mul]; congr 1; omega
                        omega
              · trivial
          · have hlt : L < H := by
              rcases Nat.lt_or_ge L H with h | h
              · exact h
              · exact absurd (List.eq_nil_of_length_eq_zero (by rw [hlen]; omega)) hne
            have hds : ds ≠ [] := by rintro rfl; simp at hHn; omega
            obtain ⟨b, off, rfl, hrow⟩ := hr hds
            have hesn : es = n := by
              have := hes.2
              simpa [esOk, hds] using this
            subst hesn
            refine ⟨b, off + L * es, ?_, hrow.sub L H⟩
            rw [if_neg]
            · simp [add_off]
            · cases m with
              | none => simp only; omega
              | some m => simp only; simp only [Option.getD_some] at b3; omega
        · cases h
      · cases h
    · rename_i k off es len
      split at h
      · rename_i hes
        obtain ⟨hn0, rfl⟩ := hes
        unfold sliceV at h
        simp only at h
        split at h
        · rename_i hb
          obtain ⟨b1, b2, b3, rfl⟩ := hb
          cases h
          simp only [Rep] at hx
          obtain ⟨hk, a, cap, rfl, hc, hnw, hv⟩ := hx
          have hb' := bounds_sim (P := P) hL hH hM true len cap hc.1 w ⟨b1, b2, by simpa using b3, by simp, by simp⟩
          have hrun : (Instr.sliceAt t (.slice a len cap) ul uh um).run P w = .ok (.slice (if cap = (l.getD 0).toNat then a else a.map (·.add ((l.getD 0).toNat * es))) ((hq.getD len).toNat - (l.getD 0).toNat) (cap - (l.getD 0).toNat)) w := by
            simp [Instr.sliceAt, Instr.slice, run_underlying hu, hb', tySize_some hn]
          refine ⟨_, hrun, ?_⟩
          generalize hL' : (l.getD 0).toNat = L at *
          generalize hH' : (hq.getD len).toNat = H at *
          have hLH : L ≤ H := by omega
          have hHn : H ≤ len := by omega
          have hcl := hc.1
          simp only [Rep]
          refine ⟨hk, _, _, rfl, ⟨by omega, fun he => ?_⟩, hnw, fun b o n x hm => ?_⟩
          · have : a = none := by
              split at he
              · exact he
              · simpa using he
            have := hc.2 this
            omega
          · obtain ⟨v1, v2, v3⟩ := hv b o n x hm
            have e1 : L * es + (H - L) * es = H * es := by rw [← Nat.add_mul]; congr 1; omega
            have e2 : H * es ≤ len * es := Nat.mul_le_mul_right _ hHn
            have e3 : L * es + (cap - L) * es = cap * es := by rw [← Nat.add_mul]; congr 1; omega
            refine ⟨by omega, ?_, fun he => ?_⟩
            · by_cases hcL : cap = L
              · right; omega
              · rw [if_neg hcL]
                rcases v2 with rfl | ⟨v2, v4⟩
                · left; simp [add_off, Nat.add_assoc]
                · right; omega
            · have := v3 (by omega)
              omega
        · cases h
      · cases h
    · cases h
  · cases h
end Go.Vm

/- Each pure operation: all together. -/
namespace Go.Vm
open Go.RowKit
set_option linter.unusedVariables false
variable {P : Program}

theorem tyField_some {t : TypeId} {f : Nat} {fd : Field} (h : tyField P t f = some fd) : ∃ fs, P.underlying t = some (.struct fs) ∧ fs[f]? = some fd := by
  simp only [tyField, Option.bind_eq_some_iff] at h
  obtain ⟨ut, hu, h⟩ := h
  cases ut <;> simp only [reduceCtorEq] at h
  exact ⟨_, hu, h⟩
theorem elemOf_some {t : TypeId} {e : TypeId} {n : Nat} {g : Bool} (h : elemOf P t = some (e, n, g)) : P.underlying t = some (.slice e) ∧ tySize P e = some n ∧ tyAgg P e = some g ∧ n ≠ 0 := by
  simp only [elemOf, tyElem, Option.bind_eq_some_iff] at h
  obtain ⟨e', ⟨ut, hu, h1⟩, n', hn, g', hg, h⟩ := h
  split at h
  · cases h
  · rename_i h0
    cases h
    cases ut <;> simp only [reduceCtorEq, Option.some.injEq] at h1
    subst h1
    exact ⟨hu, hn, hg, h0⟩
theorem fieldAddr_sim {s : TypeId} {x d : D} {f : Nat} (h : fieldAddrD P s x f = some d) {gh : Gh} {w : World} {u : Value} (hx : Rep gh w x u) :
    ∃ z, (Instr.fieldAt s u f).run P w = .ok z w ∧ Rep gh w d z := by
  simp only [fieldAddrD, Option.bind_eq_some_iff] at h
  obtain ⟨fd, hf, n, hn, h⟩ := h
  obtain ⟨fs, hu, hfd⟩ := tyField_some hf
  split at h
  · cases h
  · rename_i h0
    have key : ∀ a : Addr, (Instr.fieldAt s (.pointer (some a)) f).run P w = .ok (.pointer (some (a.add fd.offset))) w := by
      intro a
      simp [Instr.fieldAt, run_underlying hu, hfd, Instr.sureAddr, fieldPlace, tySize_some hn, h0]
    unfold fieldAddrO at h
    split at h
    · cases h
      simp only [Rep] at hx
      obtain ⟨hk, a, rfl, hnw, ha⟩ := hx
      refine ⟨_, key a, ?_⟩
      simp only [Rep]
      refine ⟨hk, _, rfl, hnw, fun b o n x hm => ?_⟩
      rw [ha b o n x hm, add_off, Nat.add_assoc]
    · cases h
      simp only [Rep] at hx
      obtain ⟨b, off, rfl, hx⟩ := hx
      refine ⟨_, key _, ?_⟩
      simp only [Rep]
      exact ⟨b, off + fd.offset, by rw [add_off], hx.drop _⟩
    · cases h
theorem field_sim {s : TypeId} {x d : D} {f : Nat} (h : fieldD P s x f = some d) {gh : Gh} {w : World} {u : Value} (hx : Rep gh w x u) :
    ∃ z, (Instr.field s u f).run P w = .ok z w ∧ Rep gh w d z := by
  simp only [fieldD, fieldO, Option.bind_eq_some_iff] at h
  obtain ⟨fd, hf, n, hn, g, hg, cs, hc, h⟩ := h
  obtain ⟨fs, hu, hfd⟩ := tyField_some hf
  obtain ⟨vs, rfl, hr⟩ := agg?_rep hc hx
  obtain ⟨v, h1, h2⟩ := run_part hg hn h hr
  exact ⟨v, by simp [Instr.field, run_underlying hu, hfd, asAgg, h1], h2⟩
theorem indexAddr_sim {t : TypeId} {x i d : D} (h : indexAddrD P t x i = some d) {gh : Gh} {w : World} {u v : Value} (hx : Rep gh w x u) (hi : Rep gh w i v) :
    ∃ z, (Instr.indexAt t u v).run P w = .ok z w ∧ Rep gh w d z := by
  simp only [indexAddrD, indexAddrO, Option.bind_eq_some_iff] at h
  obtain ⟨⟨e, n, g⟩, he, ⟨k, j⟩, hj, h⟩ := h
  obtain ⟨hu, hn, hg, h0⟩ := elemOf_some he
  have := int?_rep hj hi
  subst this
  have key : ∀ (a : Addr) (len cap : Nat), 0 ≤ j → j < len → (Instr.indexAt t (.slice (some a) len cap) (.int k j)).run P w = .ok (.pointer (some (a.add (j.toNat * n)))) w := by
    intro a len cap h1 h2
    simp [Instr.indexAt, asIntOf, run_underlying hu, h1, h2, tySize_some hn]
  split at h
  · rename_i o es ds
    split at h
    · rename_i hc
      simp only [Option.bind_eq_some_iff, Option.map_eq_some_iff] at h
      obtain ⟨d', hd, cs, hcs, rfl⟩ := h
      simp only [Rep] at hx
      obtain ⟨a, cap, rfl, hcap, ho, hr⟩ := hx
      have hne : ds ≠ [] := by rintro rfl; simp at hd
      obtain ⟨b, off, rfl, hrow⟩ := hr hne
      have hes : es = n := by
        have := hc.2
        simpa [esOk, hne] using this
      subst hes
      have hlt := (List.getElem?_eq_some_iff.1 hd).1
      refine ⟨_, key _ _ _ hc.1 (by omega), ?_⟩
      simp only [Rep]
      refine ⟨b, off + j.toNat * es, by rw [add_off], ?_⟩
      obtain ⟨v, h1, h2, h3⟩ := hrow.get hd
      have hcr := cellsT_rep hcs h1
      refine RepAt.of_get fun i c hi => ?_
      obtain ⟨z, hz, hzr⟩ := hcr.get hi
      have hil : i < es := by
        have := (List.getElem?_eq_some_iff.1 hz).1
        simpa [h2.1] using this
      refine ⟨z, (h3 i hil).1, (h3 i hil).2.trans (by simpa using hz), hzr⟩
    · cases h
  · split at h
    · rename_i hc
      cases h
      obtain ⟨c1, c2, rfl⟩ := hc
      simp only [Rep] at hx
      obtain ⟨hk, a, cap, rfl, hcap, hnw, ha⟩ := hx
      cases a with
      | none => have := hcap.2 rfl; omega
      | some a =>
        refine ⟨_, key _ _ _ c1 (by omega), ?_⟩
        simp only [Rep]
        refine ⟨hk, _, rfl, hnw, fun b o m z hm => ?_⟩
        rcases (ha b o m z hm).2.1 with e | e
        · cases e
          rw [add_off, Nat.add_assoc]
        · omega
    · cases h
  · cases h
theorem index_sim {t : TypeId} {x i d : D} (h : indexD P t x i = some d) {gh : Gh} {w : World} {u v : Value} (hx : Rep gh w x u) (hi : Rep gh w i v) :
    ∃ z, (Instr.index t u v).run P w = .ok z w ∧ Rep gh w d z := by
  simp only [indexD, Option.bind_eq_some_iff] at h
  obtain ⟨ut, hu, h⟩ := h
  cases ut <;> simp only [reduceCtorEq] at h
  simp only [indexStrO, Option.bind_eq_some_iff] at h
  obtain ⟨s, hs, ⟨k, j⟩, hj, h⟩ := h
  have := int?_rep hj hi
  subst this
  have := str?_rep hs hx
  subst this
  split at h
  · rename_i h0
    simp only [Option.map_eq_some_iff] at h
    obtain ⟨b, hb, rfl⟩ := h
    have hb' : (ByteArray.mk s.toArray)[j.toNat]? = some b := by
      have hlt := (List.getElem?_eq_some_iff.1 hb).1
      have he := (List.getElem?_eq_some_iff.1 hb).2
      rw [getElem?_pos _ _ (by simpa [ByteArray.size] using hlt)]
      simp [ByteArray.getElem_eq_getElem_data, he]
    refine ⟨.int .u8 b.toNat, ?_, by simp [Rep]⟩
    simp [Instr.index, asIntOf, run_underlying hu, h0, hb']
  · cases h
theorem assert_sim {x d : D} {xt t : TypeId} {ok : Bool} (h : assertD P x t ok = some d) {gh : Gh} {w : World} {u : Value} (hx : Rep gh w x u) :
    ∃ z, (Instr.typeAssert u xt t ok).run P w = .ok z w ∧ Rep gh w d z := by
  simp only [assertD, Option.bind_eq_some_iff] at h
  obtain ⟨ut, hu, h⟩ := h
  have hni : ∀ ms, ut ≠ .interface ms := by rintro ms rfl; simp at h
  have fail : ∀ (u : Value) (d : D), (u = .nilIface ∨ ∃ k v, u = .iface k v ∧ k ≠ t) → ok = true → ((tyZero P t).map ofConst).map (fun z => D.tup [z, .bool false]) = some d →
      ∃ z, (Instr.typeAssert u xt t ok).run P w = .ok z w ∧ Rep gh w d z := by
    intro u d hu' hok hz
    simp only [Option.map_eq_some_iff] at hz
    obtain ⟨_, ⟨z, hz, rfl⟩, rfl⟩ := hz
    subst hok
    refine ⟨.tuple #[z, .bool false], ?_, ?_⟩
    · rcases hu' with rfl | ⟨k, v, rfl, hk⟩
      · cases ut <;> first | exact absurd rfl (hni _) | simp [Instr.typeAssert, run_underlying hu, tyZero_some hz]
      · cases ut <;> first | exact absurd rfl (hni _) | simp [Instr.typeAssert, run_underlying hu, tyZero_some hz, hk]
    · simp only [Rep, RepL]
      exact ⟨_, rfl, _, _, rfl, rep_ofConst gh w z, _, _, rfl, rfl, rfl⟩
  have h' : assertV ((tyZero P t).map ofConst) x t ok = some d := by
    cases ut <;> first | exact absurd rfl (hni _) | exact h
  clear h
  unfold assertV at h'
  split at h'
  · split at h'
    · rename_i hok
      simp only [Rep] at hx
      obtain ⟨rfl, _⟩ := hx
      exact fail _ d (.inl rfl) hok h'
    · cases h'
  · simp only [Rep] at hx
    obtain ⟨v, rfl, hv⟩ := hx
    split at h'
    · rename_i e
      subst e
      cases h'
      cases ok
      · refine ⟨v, ?_, by simpa using hv⟩
        cases ut <;> first | exact absurd rfl (hni _) | simp [Instr.typeAssert, run_underlying hu]
      · refine ⟨.tuple #[v, .bool true], ?_, ?_⟩
        · cases ut <;> first | exact absurd rfl (hni _) | simp [Instr.typeAssert, run_underlying hu]
        · simp only [if_true, Rep, RepL]
          exact ⟨_, rfl, _, _, rfl, hv, _, _, rfl, rfl, rfl⟩
    · rename_i hne
      split at h'
      · rename_i hok
        exact fail _ d (.inr ⟨_, _, rfl, hne⟩) hok h'
      · cases h'
  · cases h'
theorem extract_sim {x d : D} {i : Nat} (h : extractD x i = some d) {gh : Gh} {w : World} {u : Value} (hx : Rep gh w x u) :
    ∃ z, (Instr.extract u i).run P w = .ok z w ∧ Rep gh w d z := by
  unfold extractD at h
  split at h
  · simp only [Rep] at hx
    obtain ⟨vs, rfl, hr⟩ := hx
    obtain ⟨v, h1, h2⟩ := hr.get h
    have h1' : vs[i]? = some v := by simpa using h1
    exact ⟨v, by simp [Instr.extract, h1'], h2⟩
  · cases h
theorem len_sim {t : TypeId} {x d : D} (h : lenD P t x = some d) {gh : Gh} {w : World} {u : Value} (hx : Rep gh w x u) (ts : List TypeId) (ty : TypeId) (r : List Value) :
    ∃ z, (Builtin.len_ (t :: ts).toArray ty (u :: r).toArray).run P w = .ok z w ∧ Rep gh w d z := by
  simp only [lenD, Option.bind_eq_some_iff] at h
  obtain ⟨ut, hu, h⟩ := h
  cases ut <;> simp only [reduceCtorEq] at h
  case string =>
    simp only [lenStrO, Option.map_eq_some_iff] at h
    obtain ⟨s, hs, rfl⟩ := h
    have := str?_rep hs hx
    subst this
    refine ⟨goInt (ByteArray.mk s.toArray).size, by simp [Builtin.len_, run_underlying hu], ?_⟩
    simp [Rep, goInt, ByteArray.size]
  case slice e =>
    unfold lenSlO at h
    split at h
    · rename_i o es ds
      cases h
      simp only [Rep] at hx
      obtain ⟨a, cap, rfl, _⟩ := hx
      exact ⟨goInt ds.length, by simp [Builtin.len_, run_underlying hu], by simp [Rep, goInt]⟩
    · rename_i k off es n
      cases h
      simp only [Rep] at hx
      obtain ⟨_, a, cap, rfl, _⟩ := hx
      exact ⟨goInt n, by simp [Builtin.len_, run_underlying hu], by simp [Rep, goInt]⟩
    · cases h
theorem repL_map {gh : Gh} {w : World} {e : List D} {a : Act} (he : RepL gh w e a.tmps.toList) (xs : List Operand) : RepL gh w (xs.map (evalO e)) (xs.map a.eval) :=
  RepL.map _ _ xs fun x _ => rep_eval he x

theorem execOp_v {o : Oper} {a : Act} {s : Sem Value} {w w' : World} {z : Value} (he : execOp a.eval o = do pure (.value (← s))) (h : s.run P w = .ok z w') :
    (execOp a.eval o).run P w = .ok (.value z) w' := by rw [he]; simp [h]

theorem pure_sim {o : Oper} {e : List D} {a : Act} {d : D} (h : pureD P e o.op = some d) {gh : Gh} {w : World} (he : RepL gh w e a.tmps.toList) :
    ∃ z, (execOp a.eval o).run P w = .ok (.value z) w ∧ Rep gh w d z := by
  have ev := fun x => rep_eval he x
  obtain ⟨dst, op, type, pos, after, guard⟩ := o
  have fin : ∀ {s : Sem Value}, execOp a.eval ⟨dst, op, type, pos, after, guard⟩ = (do pure (.value (← s))) → (∃ z, s.run P w = .ok z w ∧ Rep gh w d z) → ∃ z, (execOp a.eval ⟨dst, op, type, pos, after, guard⟩).run P w = .ok (.value z) w ∧ Rep gh w d z :=
    fun h1 ⟨z, h2, h3⟩ => ⟨z, execOp_v h1 h2, h3⟩
  cases op <;> simp only [pureD, reduceCtorEq, Option.some.injEq] at h
  case move x => subst h; exact ⟨a.eval x, rfl, ev x⟩
  case assign x => subst h; exact ⟨a.eval x, rfl, ev x⟩
  case pick c x y =>
    simp only [Option.map_eq_some_iff] at h
    obtain ⟨b, hb, rfl⟩ := h
    have := bool?_rep hb (ev c)
    refine ⟨if b then a.eval x else a.eval y, by simp [execOp, this, asBool], ?_⟩
    cases b
    · exact ev y
    · exact ev x
  case build t ps =>
    refine fin rfl (build_sim h ?_ ?_)
    · simp [List.map_map, Function.comp_def]
    · have := RepL.map (g := gh) (w := w) (fun p : Nat × Operand => evalO e p.2) (fun p => a.eval p.2) ps.toList fun p _ => ev p.2
      simpa [List.map_map, Function.comp_def] using this
  case nilCheck x =>
    have hx := ev x
    cases hd : evalO e x <;> rw [hd] at h hx <;> simp only [nilCheckD, reduceCtorEq, Option.some.injEq] at h
    · subst h
      have hx' := hx
      simp only [Rep] at hx
      obtain ⟨_, p, hp, _⟩ := hx
      exact ⟨a.eval x, by simp [execOp, hp], hx'⟩
    · subst h
      have hx' := hx
      simp only [Rep] at hx
      obtain ⟨b, off, hp, _⟩ := hx
      exact ⟨a.eval x, by simp [execOp, hp], hx'⟩
    · rename_i f first cap
      split at h
      · cases h
      · rename_i hf
        cases h
        have hx' := hx
        simp only [Rep] at hx
        obtain ⟨fs, cs, hp, _⟩ := hx
        refine ⟨a.eval x, ?_, hx'⟩
        cases f <;> simp [isMethod] at hf <;> simp [execOp, hp]
  case binOp op t x y t2 => exact fin rfl (bin_sim h (fun c hc => by subst hc; exact ⟨rfl, rfl⟩) (fun c hc => by subst hc; exact ⟨rfl, rfl⟩) (ev x) (ev y))
  case unOp op t x => exact fin rfl (un_sim h (ev x))
  case convert s t x => exact fin rfl (conv_sim h (ev x))
  case makeInterface t x =>
    simp only [Option.bind_eq_some_iff] at h
    obtain ⟨ut, hu, h⟩ := h
    have hc : P.concrete t = true := by unfold Program.concrete; rw [hu]; cases ut <;> first | rfl | cases h
    refine fin rfl ⟨_, run_makeInterface w t (a.eval x) hc, ?_⟩
    have : d = .iface t (evalO e x) := by cases ut <;> first | (cases h; rfl) | cases h
    subst this
    simp only [Rep]
    exact ⟨_, rfl, ev x⟩
  case makeFunc f first cap =>
    subst h
    refine fin rfl ⟨_, rfl, ?_⟩
    simp only [Rep]
    refine ⟨_, _, rfl, ?_, ?_⟩
    · simpa using repL_map he first.toList
    · simpa using repL_map he cap.toList
  case slice t x lo hi mx =>
    refine fin rfl (slice_sim h (ev x) ?_ ?_ ?_ ?_ ?_ ?_)
    · intro d hd; simp only [Option.map_eq_some_iff] at hd; obtain ⟨o, rfl, rfl⟩ := hd; exact ⟨_, rfl, ev o⟩
    · intro hd; simp at hd; simp [hd]
    · intro d hd; simp only [Option.map_eq_some_iff] at hd; obtain ⟨o, rfl, rfl⟩ := hd; exact ⟨_, rfl, ev o⟩
    · intro hd; simp at hd; simp [hd]
    · intro d hd; simp only [Option.map_eq_some_iff] at hd; obtain ⟨o, rfl, rfl⟩ := hd; exact ⟨_, rfl, ev o⟩
    · intro hd; simp at hd; simp [hd]
  case fieldAddr t x f => exact fin rfl (fieldAddr_sim h (ev x))
  case field t x f => exact fin rfl (field_sim h (ev x))
  case indexAddr t x i => exact fin rfl (indexAddr_sim h (ev x) (ev i))
  case index t x i => exact fin rfl (index_sim h (ev x) (ev i))
  case typeAssert x xt t ok => exact fin rfl (assert_sim h (ev x))
  case extract x i => exact fin rfl (extract_sim h (ev x))
  case call c =>
    obtain ⟨callee, args, argTypes⟩ := c
    cases callee <;> simp only [reduceCtorEq] at h
    rename_i b
    have hr := repL_map he args.toList
    have hargs : (args.map a.eval).toList = args.toList.map a.eval := by simp
    have hrun : ∀ (s : Sem Value), builtin b argTypes type (args.map fun | .const _ => true | _ => false) (args.map a.eval) = (do pure (.value (← s))) →
        (∃ z, s.run P w = .ok z w ∧ Rep gh w d z) → ∃ z, (execOp a.eval ⟨dst, .call ⟨.builtin b, args, argTypes⟩, type, pos, after, guard⟩).run P w = .ok (.value z) w ∧ Rep gh w d z := by
      rintro s h1 ⟨z, h2, h3⟩
      refine ⟨z, ?_, h3⟩
      simp only [execOp, resolve, invoke, Sem.run_bind, Sem.run_pure, Result.andThen_ok]
      have : (builtin b argTypes type (args.map fun | .const _ => true | _ => false) (args.map a.eval)).run P w = (do pure (Next.value (← s)) : Sem Next).run P w := by rw [h1]
      refine Eq.trans ?_ (this.trans (by simp [h2]))
      rfl
    cases b <;> simp only [pureBuiltin, reduceCtorEq] at h
    case len =>
      split at h
      · rename_i t ts x h1 h2
        rw [h2] at hr
        obtain ⟨us, hus⟩ : ∃ us, args.toList.map a.eval = us := ⟨_, rfl⟩
        rw [hus] at hr hargs
        simp only [RepL] at hr
        obtain ⟨v, r, rfl, hv, rfl⟩ := hr
        refine hrun _ rfl ?_
        have e1 : argTypes = (t :: ts).toArray := by rw [← h1]
        have e2 : args.map a.eval = [v].toArray := by rw [← hargs]
        rw [e1, e2]
        exact len_sim h hv ts type []
      · cases h
    case max => exact hrun _ rfl (minMax_sim (mx := true) (ts := argTypes) (t := type) h (by rw [hargs]; exact hr))
    case min => exact hrun _ rfl (minMax_sim (mx := false) (ts := argTypes) (t := type) h (by rw [hargs]; exact hr))
end Go.Vm
