/- Regions that draw their order: the theorem. -/
import Derived.Test.YtkhcbemdcehkdaaVmDraw
set_option linter.all false
namespace Go.Vm
open Go.RowKit
set_option linter.unusedVariables false

theorem all_zipIdx {α : Type} {xs : Array α} {f : α × Nat → Bool} (h : xs.toList.zipIdx.all f = true) {i : Nat} {x : α} (hx : xs[i]? = some x) : f (x, i) = true := by
  refine List.all_eq_true.1 h (x, i) ?_
  rw [List.mem_zipIdx_iff_getElem?]
  simpa using hx
theorem ancAll_lt {ops : Array Oper} (hb : ∀ (i : Nat) o, ops[i]? = some o → ∀ k ∈ bindsOn o, k < i) (m : Nat) : ∀ j ∈ (ancAll ops).getD m [], j < m := by
  have := ancAll_closed (ops := ops) (L := fun j => decide (j < m)) (fun i hi o ho k hk => by
    have := hb i o ho k hk
    simp only [decide_eq_true_eq] at hi ⊢
    omega) m fun o ho k hk => by simpa using hb m o ho k hk
  intro j hj
  simpa using this j hj
theorem env_upto {ops : Array Oper} {T : List TStep} {e : List D} (i : Nat) : ∀ n, envLm ops T e (fun m => decide (m < i)) n = envLm ops T e (fun _ => true) (min n i)
  | 0 => by simp [envLm]
  | n + 1 => by
    simp only [envLm, env_upto i n]
    by_cases h : n < i
    · have h1 : min (n + 1) i = n + 1 := by omega
      have h2 : min n i = n := by omega
      rw [h1, h2]
      simp [h, envLm]
    · have h1 : min (n + 1) i = i := by omega
      have h2 : min n i = i := by omega
      simp [h, h1, h2]
def cntm (L : Nat → Bool) : Nat → Nat
  | 0 => 0
  | m + 1 => cntm L m + cond (L m) 0 1
theorem cnt_zero {L : Nat → Bool} : ∀ {n}, cntm L n = 0 → ∀ i, i < n → L i = true
  | 0, _, i, h => by omega
  | n + 1, h, i, hi => by
    simp only [cntm] at h
    by_cases e : i = n
    · subst e
      cases hL : L i
      · rw [hL] at h; simp at h
      · rfl
    · exact cnt_zero (n := n) (by omega) i (by omega)
theorem cnt_all {L : Nat → Bool} : ∀ {n}, (∀ i, i < n → L i = true) → cntm L n = 0
  | 0, _ => rfl
  | n + 1, h => by simp only [cntm, h n (by omega), cond_true, Nat.add_zero]; exact cnt_all fun i hi => h i (by omega)
theorem cnt_more {L L' : Nat → Bool} {i : Nat} (hi : L i = false) (hi' : L' i = true) (hne : ∀ j, j ≠ i → L' j = L j) : ∀ n, i < n → cntm L' n + 1 = cntm L n
  | 0, h => by omega
  | n + 1, h => by
    simp only [cntm]
    by_cases e : n = i
    · subst e
      have : ∀ q, q ≤ n → cntm L' q = cntm L q := by
        intro q
        induction q with
        | zero => intro _; rfl
        | succ q ih => intro hq; simp only [cntm, ih (by omega), hne q (by omega)]
      rw [this n (Nat.le_refl _), hi, hi']
      simp
    · have := cnt_more hi hi' hne n (by omega)
      rw [hne n e]
      omega
theorem least_loose {L : Nat → Bool} : ∀ n, (∀ i, i < n → L i = true) ∨ ∃ i, i < n ∧ L i = false ∧ ∀ k, k < i → L k = true
  | 0 => .inl fun i h => by omega
  | n + 1 => by
    rcases least_loose (L := L) n with h | ⟨i, h1, h2, h3⟩
    · cases hL : L n
      · exact .inr ⟨n, by omega, hL, h⟩
      · exact .inl fun i hi => by
          by_cases e : i = n
          · subst e; exact hL
          · exact h i (by omega)
    · exact .inr ⟨i, by omega, h2, h3⟩
theorem loadD_congr {P : Program} {t : TypeId} {ad : D} {A1 A2 : St} (h : ∀ k off, ad = .ref k off → A1[k]? = A2[k]?) : loadD P t ad A1 = loadD P t ad A2 := by
  unfold loadD loadO
  cases ad <;> try rfl
  rename_i k off
  simp only [h k off rfl]
theorem foldEnv_append (a b : List (Oper × TStep)) (e : List D) : foldEnv (a ++ b) e = foldEnv b (foldEnv a e) := by
  induction a generalizing e with
  | nil => rfl
  | cons x a ih => obtain ⟨o, s⟩ := x; simp only [List.cons_append, foldEnv, ih]
theorem env_full {ops : Array Oper} {T : List TStep} {e : List D} {L : Nat → Bool} (hT : T.length = ops.size) (hL : ∀ i, i < ops.size → L i = true) : ∀ m, m ≤ ops.size → envLm ops T e L m = foldEnv ((ops.toList.zip T).take m) e
  | 0, _ => rfl
  | m + 1, h => by
    have h1 : m < ops.size := by omega
    have h2 : m < T.length := by omega
    have hz : m < (ops.toList.zip T).length := by simp; omega
    rw [List.take_succ_eq_append_getElem hz, foldEnv_append, ← env_full hT hL m (by omega)]
    simp only [envLm, hL m h1, cond_true, List.getElem_zip, foldEnv, Array.getElem_toList]
    simp [h1, tv, h2]
theorem forget_get : ∀ (os : List Oper) (e : List D) (t : Nat), (∀ o ∈ os, o.dst ≠ some t) → (forgetEnv os e)[t]? = e[t]?
  | [], e, t, _ => rfl
  | o :: os, e, t, h => by
    simp only [forgetEnv]
    rw [forget_get os _ t fun o' ho => h o' (by simp [ho]), put_get _ _ _ _ (h o (by simp))]
theorem forget_length : ∀ (os : List Oper) (e : List D), (forgetEnv os e).length = e.length
  | [], e => rfl
  | o :: os, e => by
    simp only [forgetEnv]
    rw [forget_length]
    unfold putD
    split <;> simp
theorem forget_any : ∀ (os : List Oper) (e : List D) (t : Nat), (∃ o ∈ os, o.dst = some t) → ∀ d, (forgetEnv os e)[t]? = some d → d = .any
  | [], e, t, h, d, hd => by obtain ⟨o, ho, _⟩ := h; simp at ho
  | o :: os, e, t, h, d, hd => by
    simp only [forgetEnv] at hd
    by_cases hex : ∃ o ∈ os, o.dst = some t
    · exact forget_any os _ t hex d hd
    · rw [forget_get os _ t fun o' ho e => hex ⟨o', ho, e⟩] at hd
      obtain ⟨o', ho', he⟩ := h
      rcases List.mem_cons.1 ho' with rfl | h
      · rw [he] at hd
        simp only [putD, List.getElem?_set] at hd
        simp only [if_true] at hd
        split at hd
        · cases hd; rfl
        · cases hd
      · exact absurd ⟨o', h, he⟩ hex
theorem env_none {ops : Array Oper} {T : List TStep} {e : List D} {L : Nat → Bool} {t : Nat} (h : ∀ o ∈ ops.toList, o.dst ≠ some t) : ∀ m, (envLm ops T e L m)[t]? = e[t]?
  | 0 => rfl
  | m + 1 => by
    simp only [envLm]
    cases L m
    · exact env_none h m
    · simp only [cond_true]
      rw [put_get, env_none h m]
      cases ho : ops[m]? with
      | none => simp
      | some o => simpa using h o (by simpa using Array.mem_of_getElem? ho)
theorem allSame_mem {T : List TStep} : ∀ {ps : List (Nat × Nat)}, allSame T ps → ∀ p ∈ ps, sameAt T p
  | [], _, p, hp => by simp at hp
  | q :: ps, h, p, hp => by
    rcases List.mem_cons.1 hp with rfl | hp
    · exact h.1
    · exact allSame_mem h.2 p hp
theorem eff_call {P : Cx} {op : Op} (h : drK P op = .eff) (h' : opK P.P op ≠ .call) : opK P.P op = .world := by
  unfold drK at h
  split at h
  · cases h
  · assumption
  · exact absurd (by assumption) h'
  · cases h
theorem rep_noRoom {g : Gh} {w : World} {o : Own} {es : Nat} {ds : List D} {v : Value} (h : Rep g w (.sl o es ds) v) : Rep g w (.sl .sh es ds) v := by
  unfold Rep at h ⊢
  obtain ⟨a, cap, h1, h2, h3, h4⟩ := h
  exact ⟨a, cap, h1, h2, trivial, h4⟩
theorem Kept_append' (A B : St) : Kept A (A ++ B) :=
  ⟨by simp, fun k hk => .inl (List.getElem?_append_left hk)⟩
/-- an append without its room: in whatever store -/
theorem append_any {n b : Nat} {x y d : D} {A1 : St} (h : appendO n b x y [] = some (d, A1)) (A : St) :
    ∃ o0 es0 ds new o B, x = .sl o0 es0 ds ∧ appendNew n y = some new ∧ (∃ o1, d = .sl o1 n (ds ++ new)) ∧ appendO n b x y A = some (.sl o n (ds ++ new), A ++ B) := by
  unfold appendO at h ⊢
  simp only [Option.bind_eq_some_iff] at h
  obtain ⟨new, hn, h⟩ := h
  rw [hn]
  simp only [Option.bind_some]
  cases x <;> simp only [reduceCtorEq] at h
  rename_i o0 es0 ds
  split at h
  · rename_i hc
    simp only
    simp only [if_pos hc]
    cases o0 with
    | full =>
      simp only at h ⊢
      split at h
      · rename_i he
        simp only [Option.some.injEq, Prod.mk.injEq] at h
        have : new = [] := by simpa using he
        subst this
        exact ⟨.full, es0, ds, [], .full, [], rfl, rfl, ⟨_, by simpa using h.1.symm⟩, by simp⟩
      · rename_i he
        simp only [Option.some.injEq, Prod.mk.injEq] at h
        exact ⟨.full, es0, ds, new, .own A.length 0, _, rfl, rfl, ⟨_, h.1.symm⟩, by rw [if_neg he]⟩
    | sh =>
      simp only at h ⊢
      split at h
      · rename_i he
        simp only [Option.some.injEq, Prod.mk.injEq] at h
        have : new = [] := by simpa using he
        subst this
        exact ⟨.sh, es0, ds, [], .sh, [], rfl, rfl, ⟨_, by simpa using h.1.symm⟩, by simp⟩
      · cases h
    | own c s => simp at h
  · cases h
theorem val_sim {X : Cx} {o : Oper} {e : List D} {a : Act} {d : D} (hk : drK X o.op = .val) (hp : opK X.P o.op ≠ .pure) (h : valD X.P e o.op = some d) {gh : Gh} {w : World} {A : St} (I : Inv gh A w)
    (he : RepL gh w e a.tmps.toList) : ∃ nx w' g', (execOp a.eval o).run X.P w = .ok nx w' ∧ NextOk g' w' d nx ∧ Ext gh w g' w' ∧ Inv g' A w' := by
  have hw : ∀ d', worldD X.P e o.op A = some (d', A) → d' = d → ∃ nx w' g', (execOp a.eval o).run X.P w = .ok nx w' ∧ NextOk g' w' d nx ∧ Ext gh w g' w' ∧ Inv g' A w' := by
    intro d' h1 h2
    subst h2
    exact world_sim h1 I he
  unfold valD at h
  unfold drK at hk
  cases hopk : opK X.P o.op <;> rw [hopk] at hk hp h <;> simp only [reduceCtorEq] at hk
  · exact absurd rfl hp
  · cases hop : o.op <;> rw [hop] at hk h hw <;> (try (simp only [reduceCtorEq] at hk; done))
    case buildSlice t n ps =>
      simp only [worldD, Option.map_eq_some_iff, Prod.mk.injEq] at h
      obtain ⟨_, ⟨d', h, rfl⟩, h3⟩ := h
      refine hw d (by simp only [worldD, Option.map_eq_some_iff, Prod.mk.injEq]; exact ⟨d', h, h3, trivial⟩) rfl
    case convert s t x =>
      simp only [worldD, Option.map_eq_some_iff, Prod.mk.injEq] at h
      obtain ⟨_, ⟨d', h, rfl⟩, h3⟩ := h
      refine hw d (by simp only [worldD, Option.map_eq_some_iff, Prod.mk.injEq]; exact ⟨d', h, h3, trivial⟩) rfl
    case call c =>
      have hcall : ∃ args ts, c = ⟨.builtin .append, args, ts⟩ := by
        obtain ⟨callee, args, ts⟩ := c
        cases callee <;> (try (simp only [reduceCtorEq] at hk; done))
        rename_i b
        cases b <;> (try (simp only [reduceCtorEq] at hk; done))
        exact ⟨args, ts, rfl⟩
      obtain ⟨args, ts, rfl⟩ := hcall
      simp only [Option.bind_eq_some_iff] at h
      obtain ⟨⟨d0, A1⟩, h, hs⟩ := h
      simp only [worldD] at h
      split at h
      · rename_i x y hxy
        have ev := fun x => rep_eval he x
        have hxr := ev x
        have hyr := ev y
        unfold appendD at h
        split at h
        · rename_i t u hts
          simp only [Option.bind_eq_some_iff] at h
          obtain ⟨r, hr, b, hb, z, hz, h⟩ := h
          split at h
          · rename_i hc
            obtain ⟨o0, es0, ds, new, o1, B, hx, hn, ⟨o2, hd0⟩, hA⟩ := append_any h A
            subst hd0
            simp only [shV, Option.some.injEq] at hs
            subst hs
            have hwd : worldD X.P e o.op A = some (.sl o1 r.2.1 (ds ++ new), A ++ B) := by
              rw [hop]
              simp only [worldD, hxy]
              simp only [hts, appendD, hr, hb, hz, Option.bind_some, if_pos hc, hA]
            obtain ⟨nx, w', g', h1, h2, h3, h4⟩ := world_sim hwd I he
            obtain ⟨E', I', K⟩ := Inv.trunc I h3 h4 ((Kept_append' A B))
            rw [List.take_left] at I'
            refine ⟨nx, w', _, h1, ?_, E', I'⟩
            cases nx <;> simp only [NextOk] at h2
            case skip => cases h2
            case value zv =>
              have h5 := Rep.keep K _ zv h2
              have hsx : D.shutL gh.len ds = ds := by
                rw [hx] at hxr
                have := Rep.shut_id (Nat.le_refl gh.len) _ _ hxr
                simp only [D.shut, D.sl.injEq] at this
                exact this.2.2
              have hsy : D.shutL gh.len new = new := by
                unfold appendNew at hn
                split at hn
                · rename_i o3 es3 ds3 hy3
                  split at hn
                  · cases hn
                    rw [hy3] at hyr
                    have := Rep.shut_id (Nat.le_refl gh.len) _ _ hyr
                    simp only [D.shut, D.sl.injEq] at this
                    exact this.2.2
                  · cases hn
                · split at hn
                  · cases hn
                    rw [shutL_eq]
                    unfold strBytes
                    rw [List.map_map]
                    rfl
                  · cases hn
                · cases hn
              have h6 : (D.sl o1 r.2.1 (ds ++ new)).shut gh.len = .sl (o1.shut gh.len) r.2.1 (ds ++ new) := by
                simp only [D.shut, D.sl.injEq, true_and]
                rw [shutL_eq, List.map_append, ← shutL_eq, ← shutL_eq, hsx, hsy]
              simp only [NextOk]
              have h7 : Rep { g' with len := gh.len } w' ((D.sl o1 r.2.1 (ds ++ new)).shut gh.len) zv := h5
              rw [h6] at h7
              exact rep_noRoom h7
          · cases h
        · cases h
      · cases h
end Go.Vm
