/- VmPure, VmPure2 in one text. -/
import Derived.Test.YtikjlgcbcljehaaGreatDoorVmFrz
import Derived.Laws.Entries
import Derived.Laws.Slices
import Derived.Laws.Build
import Derived.Laws.BytesString
import Derived.Laws.Cells
import Derived.Laws.Append
import Derived.Laws.IdiomCopy
import Derived.Laws.MakeOwn
import Derived.Laws.Concat
import Derived.Laws.Strings
import Derived.Laws.StructEq
set_option linter.all false
/- Each pure operation gives what the abstract interpreter says. -/
namespace Go.Vm
open Go.RowKit
set_option linter.unusedVariables false

variable {P : Program}

theorem tySize_some {t : TypeId} {n : Nat} (h : tySize P t = some n) (w : World) : (sizeOf t).run P w = .ok n w := by
  simp only [tySize, Option.map_eq_some_iff] at h
  obtain ⟨i, hi, rfl⟩ := h
  simp [sizeOf, typeInfo, hi]
theorem tyAgg_some {t : TypeId} {g : Bool} (h : tyAgg P t = some g) (w : World) : (isAgg t).run P w = .ok g w := by
  simp only [tyAgg, Option.map_eq_some_iff] at h
  obtain ⟨d, hd, rfl⟩ := h
  simp only [isAgg, Sem.run_bind, run_underlying hd, Result.andThen_ok]
  cases d <;> rfl
theorem tyZero_some {t : TypeId} {z : Value} (h : tyZero P t = some z) (w : World) : (zeroValue t).run P w = .ok z w := by
  simp only [tyZero, Option.bind_eq_some_iff] at h
  obtain ⟨i, hi, hz⟩ := h
  simp [zeroValue, typeInfo, hi, hz]
theorem run_part {t : TypeId} {g : Bool} {n off : Nat} (hg : tyAgg P t = some g) (hn : tySize P t = some n) {cs : List D} {d : D} (h : ofCells g cs off n = some d)
    {gh : Gh} {w : World} {vs : Array Value} (hr : RepL gh w cs vs.toList) : ∃ v, (part t vs off).run P w = .ok v w ∧ Rep gh w d v := by
  cases g with
  | true =>
    simp only [ofCells, cond_true] at h
    split at h
    · rename_i hle
      cases h
      refine ⟨.agg (vs.extract off (off + n)), ?_, ?_⟩
      · simp [part, tyAgg_some hg, tySize_some hn]
      · simp only [Rep]
        refine ⟨_, rfl, ?_⟩
        have := (hr.drop off).take n
        simpa [Array.toList_extract, List.extract_eq_take_drop] using this
    · cases h
  | false =>
    simp only [ofCells, cond_false] at h
    obtain ⟨v, hv, hr⟩ := hr.get h
    have hv' : vs[off]? = some v := by simpa using hv
    exact ⟨v, by simp [part, tyAgg_some hg, hv'], hr⟩

theorem int?_rep {gh : Gh} {w : World} {d : D} {p : IntKind × Int} {v : Value} (h : d.int? = some p) (hr : Rep gh w d v) : v = .int p.1 p.2 := by
  cases d <;> simp only [D.int?, reduceCtorEq, Option.some.injEq] at h
  subst h; simpa [Rep] using hr
theorem bool?_rep {gh : Gh} {w : World} {d : D} {b : Bool} {v : Value} (h : d.bool? = some b) (hr : Rep gh w d v) : v = .bool b := by
  cases d <;> simp only [D.bool?, reduceCtorEq, Option.some.injEq] at h
  subst h; simpa [Rep] using hr
theorem str?_rep {gh : Gh} {w : World} {d : D} {s : List UInt8} {v : Value} (h : d.str? = some s) (hr : Rep gh w d v) : v = .string ⟨s.toArray⟩ := by
  cases d <;> simp only [D.str?, reduceCtorEq, Option.some.injEq] at h
  subst h
  simp only [Rep] at hr
  obtain ⟨x, rfl, h⟩ := hr
  congr 1
  cases x
  simp at h
  subst h
  rfl
theorem agg?_rep {gh : Gh} {w : World} {d : D} {cs : List D} {v : Value} (h : d.agg? = some cs) (hr : Rep gh w d v) : ∃ vs : Array Value, v = .agg vs ∧ RepL gh w cs vs.toList := by
  cases d <;> simp only [D.agg?, reduceCtorEq, Option.some.injEq] at h
  subst h; simpa [Rep] using hr

/-! build -/
theorem fold_set_splice (us : List Value) : ∀ (i : Nat) (off : Nat) (c : Array Value), off + i + us.length ≤ c.size →
    ((us.toArray.zipIdx i).foldl (fun cs (x : Value × Nat) => cs.setIfInBounds (off + x.2) x.1) c).toList = c.toList.take (off + i) ++ us ++ c.toList.drop (off + i + us.length) := by
  induction us with
  | nil => intro i off c h; rw [← Array.foldl_toList]; simp
  | cons u us ih =>
    intro i off c h
    have e : ((u :: us).toArray.zipIdx i).foldl (fun cs (x : Value × Nat) => cs.setIfInBounds (off + x.2) x.1) c =
        (us.toArray.zipIdx (i + 1)).foldl (fun cs (x : Value × Nat) => cs.setIfInBounds (off + x.2) x.1) (c.setIfInBounds (off + i) u) := by
      rw [← Array.foldl_toList, ← Array.foldl_toList]
      simp [List.zipIdx_cons]
    rw [e, ih (i + 1) off _ (by simp at h ⊢; omega)]
    simp at h
    apply List.ext_getElem?
    intro j
    simp only [Array.toList_setIfInBounds, List.getElem?_append, List.length_append, List.length_take, List.length_set, Array.length_toList, List.length_cons, List.getElem?_take, List.getElem?_drop, List.getElem?_set]
    have h1 : min (off + (i + 1)) c.size = off + i + 1 := by omega
    have h2 : min (off + i) c.size = off + i := by omega
    rw [h1, h2]
    by_cases c1 : j < off + i
    · simp [show j < off + i + 1 + us.length by omega, show j < off + i + 1 by omega, show j < off + i + (us.length + 1) by omega, c1, show ¬ off + i = j by omega]
      omega
    · by_cases c2 : j = off + i
      · subst c2
        simp [show off + i < off + i + 1 + us.length by omega, show off + i < c.size by omega]
      · by_cases c3 : j < off + i + 1 + us.length
        · have : j - (off + i) = (j - (off + i + 1)) + 1 := by omega
          simp [c3, c1, show ¬ j < off + i + 1 by omega, show j < off + i + (us.length + 1) by omega, this]
        · simp [c3, show ¬ j < off + i + (us.length + 1) by omega]
          have e1 : off + (i + 1) + us.length + (j - (off + i + 1 + us.length)) = j := by omega
          have e2 : off + i + (us.length + 1) + (j - (off + i + (us.length + 1))) = j := by omega
          rw [e1, e2, if_neg (by omega)]
theorem splice_rep {gh : Gh} {w : World} {cs vs : List D} {us zs : List Value} (h : RepL gh w cs zs) (k : RepL gh w vs us) (off : Nat) :
    RepL gh w (splice cs off vs) (zs.take off ++ us ++ zs.drop (off + us.length)) := by
  unfold splice
  rw [k.length]
  exact ((h.take off).append k).append (h.drop _)

theorem fill_sim {gh : Gh} {w : World} {fs : Array Field} {place : Nat → Option (Nat × Nat)} :
    ∀ (parts : List (Nat × D)) (vs : List (Nat × Value)) (cs cs' : List D) (zs : Array Value),
    (∀ (i : Nat) f n, fs[i]? = some f → tySize P f.type = some n → place i = some (f.offset, n)) →
    fillD P fs cs parts = some cs' → parts.map (·.1) = vs.map (·.1) → RepL gh w (parts.map (·.2)) (vs.map (·.2)) → RepL gh w cs zs.toList →
    ∃ zs', Instr.fill place zs vs = some zs' ∧ RepL gh w cs' zs'.toList
  | [], vs, cs, cs', zs, hp, h, h1, h2, h3 => by
    cases vs with
    | nil => simp only [fillD, Option.some.injEq] at h; subst h; exact ⟨zs, rfl, h3⟩
    | cons => simp at h1
  | (i, d) :: parts, [], cs, cs', zs, hp, h, h1, h2, h3 => by simp at h1
  | (i, d) :: parts, (i', v) :: vs, cs, cs', zs, hp, h, h1, h2, h3 => by
    simp only [List.map_cons, List.cons.injEq] at h1
    obtain ⟨rfl, h1⟩ := h1
    simp only [List.map_cons, RepL] at h2
    obtain ⟨v', r, he, hv, h2⟩ := h2
    cases he
    simp only [fillD, layCells, Option.bind_eq_some_iff] at h
    obtain ⟨f, hf, n, hn, g, hg, cs1, ⟨us, hu, h1'⟩, h⟩ := h
    split at h1'
    · rename_i hlen
      cases h1'
      have hu' := cellsT_rep hu hv
      have hsz : v.cells.size = n := by rw [← hlen.1, hu'.length, Array.length_toList]
      have hzl : cs.length = zs.size := by rw [h3.length, Array.length_toList]
      have hps := hp i f n hf hn
      have hfold := fold_set_splice v.cells.toList 0 f.offset zs (by rw [Array.length_toList, hsz]; omega)
      have key : RepL gh w (splice cs f.offset us) ((v.cells.zipIdx.foldl (fun cs (x : Value × Nat) => cs.setIfInBounds (f.offset + x.2) x.1) zs).toList) := by
        have := splice_rep h3 hu' f.offset
        simp only [Array.toArray_toList, Nat.add_zero] at hfold
        rw [hfold]
        exact this
      obtain ⟨zs', h4, h5⟩ := fill_sim parts vs _ cs' _ hp h h1 h2 key
      refine ⟨zs', ?_, h5⟩
      rw [Instr.fill, hps]
      simp only
      rw [if_neg (by simp [hsz]; omega)]
      exact h4
    · cases h1'
theorem mapM_ok {α β : Type} (f : α → Sem β) (k : α → β) (w : World) : ∀ (l : List α), (∀ x ∈ l, (f x).run P w = .ok (k x) w) → (l.mapM f).run P w = .ok (l.map k) w
  | [], _ => by simp
  | x :: l, h => by
    simp [List.mapM_cons, h x (by simp), mapM_ok f k w l (fun y hy => h y (by simp [hy]))]
theorem build_sim {gh : Gh} {w : World} {t : TypeId} {parts : List (Nat × D)} {d : D} (h : buildD P t parts = some d) {vs : Array (Nat × Value)}
    (h1 : parts.map (·.1) = vs.toList.map (·.1)) (h2 : RepL gh w (parts.map (·.2)) (vs.toList.map (·.2))) :
    ∃ v, (Instr.build t vs).run P w = .ok v w ∧ Rep gh w d v := by
  simp only [buildD, Option.bind_eq_some_iff] at h
  obtain ⟨ut, hu, h⟩ := h
  cases ut <;> simp only [reduceCtorEq] at h
  case struct fs =>
    simp only [Option.bind_eq_some_iff] at h
    obtain ⟨z, hz, h⟩ := h
    split at h
    · rename_i hall
      simp only [Option.map_eq_some_iff] at h
      obtain ⟨cs', hc, rfl⟩ := h
      have hz0 : RepL gh w (z.cells.toList.map ofCell) z.cells.toList := by
        have := RepL.map (g := gh) (w := w) ofCell id z.cells.toList fun x _ => rep_ofCell gh w x
        simpa using this
      have hpl : ∀ (i : Nat) f n, fs[i]? = some f → tySize P f.type = some n → ((fs.map fun f => (f.offset, ((P.info? f.type).map (·.size)).getD 0))[i]? : Option (Nat × Nat)) = some (f.offset, n) := by
        intro i f n hf hn
        simp only [tySize] at hn
        simp [Array.getElem?_map, hf, hn]
      obtain ⟨zs', h3, h4⟩ := fill_sim (place := fun i => (fs.map fun f => (f.offset, ((P.info? f.type).map (·.size)).getD 0))[i]?) parts vs.toList _ cs' z.cells hpl hc h1 h2 hz0
      refine ⟨.agg zs', ?_, by simp only [Rep]; exact ⟨zs', rfl, h4⟩⟩
      have hm : (fs.mapM (m := Sem) fun f => do pure (f.offset, ← sizeOf f.type)).run P w = .ok (fs.map fun f => (f.offset, ((P.info? f.type).map (·.size)).getD 0)) w := by
        rw [← Array.toArray_toList (xs := fs), List.mapM_toArray]
        simp only [Sem.run_map]
        rw [mapM_ok (P := P) _ (fun f => (f.offset, ((P.info? f.type).map (·.size)).getD 0)) w fs.toList]
        · simp only [Result.andThen_ok]
          congr 1
          apply Array.ext'
          simp
        · intro f hf
          have := Array.all_eq_true_iff_forall_mem.1 hall f (by simpa using hf)
          obtain ⟨i, hi⟩ := Option.isSome_iff_exists.1 this
          simp [sizeOf, typeInfo, hi]
      simp only [Instr.build, Sem.run_bind, tyZero_some hz, Result.andThen_ok, run_underlying hu, hm, h3]
      rfl
    · cases h
end Go.Vm

/- Each pure operation, second part. -/
namespace Go.Vm
open Go.RowKit
set_option linter.unusedVariables false
variable {P : Program}

/-! numbers, texts, comparisons -/
theorem intBin_sim {op : BinOp} {k : IntKind} {a b : Int} {d : D} (h : intBinD op k a b = some d) (hs : op ≠ .shl ∧ op ≠ .shr) (t : TypeId) (gh : Gh) (w : World) :
    ∃ v, (binOp op t (.int k a) (.int k b)).run P w = .ok v w ∧ Rep gh w d v := by
  obtain ⟨h1, h2⟩ := hs
  cases op <;> simp only [intBinD, reduceCtorEq, Option.some.injEq, ne_eq] at h h1 h2
  case quo =>
    split at h
    · cases h
    · rename_i hb; cases h; simp [binOp, Op.intDiv, hb, Rep]
  case rem =>
    split at h
    · cases h
    · rename_i hb; cases h; simp [binOp, Op.intDiv, hb, Rep]
  all_goals (subst h; simp [binOp, Op.intArith, Op.intBits, Op.intCmp, Rep])
theorem shift_sim {op : BinOp} {k : IntKind} {a b : Int} {d : D} (h : shiftD op k a b = some d) (t : TypeId) (gh : Gh) (w : World) :
    ∃ v, (∀ k', (binOp op t (.int k a) (.int k' b)).run P w = .ok v w) ∧ Rep gh w d v := by
  simp only [shiftD] at h
  split at h
  · cases h
  · rename_i hb
    cases op <;> simp only [reduceCtorEq, Option.some.injEq] at h <;> subst h <;> simp [binOp, Op.shift, hb, Rep]
theorem strBin_sim {op : BinOp} {a b : List UInt8} {d : D} (h : strBinD op a b = some d) (hs : op ≠ .shl ∧ op ≠ .shr) (t : TypeId) (gh : Gh) (w : World) :
    ∃ v, (binOp op t (.string ⟨a.toArray⟩) (.string ⟨b.toArray⟩)).run P w = .ok v w ∧ Rep gh w d v := by
  obtain ⟨h1, h2⟩ := hs
  cases op <;> simp only [strBinD, reduceCtorEq, Option.some.injEq, ne_eq] at h h1 h2
  case add =>
    split at h
    · rename_i hle
      cases h
      refine ⟨_, by simp only [binOp]; exact run_string_add_sum _ _ _ (by simpa [ByteArray.size] using hle), ?_⟩
      simp only [Rep]
      exact ⟨_, rfl, by rw [ByteArray.data_append]; simp⟩
    · cases h
  all_goals (subst h; simp [binOp, Op.stringOp, Rep])
theorem equalIn_bool {t : TypeId} (hu : P.underlying t = some .bool) (n : Nat) (a b : Bool) (w : World) : (Op.equalIn (n + 1) t (.bool a) (.bool b)).run P w = .ok (a == b) w := by
  simp [Op.equalIn, run_underlying hu]
theorem equalIn_nilIface {t : TypeId} {ms} (hu : P.underlying t = some (.interface ms)) (n : Nat) (w : World) : (Op.equalIn (n + 1) t .nilIface .nilIface).run P w = .ok true w := by
  simp [Op.equalIn, run_underlying hu]
theorem equalIn_iface_l {t : TypeId} {ms} (hu : P.underlying t = some (.interface ms)) (n : Nat) (k : TypeId) (v : Value) (w : World) : (Op.equalIn (n + 1) t .nilIface (.iface k v)).run P w = .ok false w := by
  simp [Op.equalIn, run_underlying hu]
theorem equalIn_iface_r {t : TypeId} {ms} (hu : P.underlying t = some (.interface ms)) (n : Nat) (k : TypeId) (v : Value) (w : World) : (Op.equalIn (n + 1) t (.iface k v) .nilIface).run P w = .ok false w := by
  simp [Op.equalIn, run_underlying hu]
theorem equalIn_ptr_l {t e : TypeId} (hu : P.underlying t = some (.pointer e)) (n : Nat) (a : Option Addr) (w : World) : (Op.equalIn (n + 1) t (.pointer none) (.pointer a)).run P w = .ok a.isNone w := by
  simp [Op.equalIn, run_underlying hu]
theorem equalIn_ptr_r {t e : TypeId} (hu : P.underlying t = some (.pointer e)) (n : Nat) (a : Addr) (w : World) : (Op.equalIn (n + 1) t (.pointer (some a)) (.pointer none)).run P w = .ok false w := by
  simp [Op.equalIn, run_underlying hu]
theorem equalIn_slice_r {t e : TypeId} (hu : P.underlying t = some (.slice e)) (n : Nat) (a : Addr) (l c : Nat) (w : World) : (Op.equalIn (n + 1) t (.slice (some a) l c) (.slice none 0 0)).run P w = .ok false w := by
  simp [Op.equalIn, run_underlying hu]
/-- what '==' and '!=' do when the operands are neither numbers nor texts -/
def notNumStr : Value → Bool
  | .int .. | .float .. | .complex .. | .string _ => false
  | _ => true
theorem binOp_eq {t : TypeId} {u v : Value} {r : Bool} {w : World} (neq : Bool) (hn : notNumStr u = true) (h : (Op.equalIn (9999 + 1) t u v).run P w = .ok r w) :
    (binOp (if neq then .neq else .eql) t u v).run P w = .ok (.bool (if neq then !r else r)) w := by
  have h' : (Op.equal t u v).run P w = .ok r w := h
  cases neq
  · have e : binOp .eql t u v = (do pure (.bool (← Op.equal t u v))) := by cases u <;> simp [notNumStr] at hn <;> rfl
    simp only [Bool.false_eq_true, if_false, e, Sem.run_bind, h', Result.andThen_ok]
    rfl
  · have e : binOp .neq t u v = (do pure (.bool (!(← Op.equal t u v)))) := by cases u <;> simp [notNumStr] at hn <;> rfl
    simp only [if_true, e, Sem.run_bind, h', Result.andThen_ok]
    rfl
theorem const_nilSlice {c : Value} {es : Nat} (h : ofConst c = .sl .full es []) : c = .slice none 0 0 := by
  unfold ofConst at h
  split at h
  · cases h
  · split at h <;> cases h
  · unfold ofCell at h
    split at h <;> first | rfl | cases h | skip
    split at h <;> cases h
theorem const_noElems {c : Value} {o : Own} {es : Nat} {d : D} {ds : List D} (h : ofConst c = .sl o es (d :: ds)) : False := by
  unfold ofConst at h
  split at h
  · cases h
  · split at h <;> cases h
  · unfold ofCell at h
    split at h <;> first | cases h | skip
    split at h <;> cases h
theorem rep_slCons {gh : Gh} {w : World} {o : Own} {es : Nat} {d : D} {ds : List D} {u : Value} (h : Rep gh w (.sl o es (d :: ds)) u) : ∃ a l c, u = .slice (some a) l c := by
  unfold Rep at h
  obtain ⟨a, cap, rfl, _, _, h⟩ := h
  obtain ⟨b, off, rfl, _⟩ := h (by simp)
  exact ⟨_, _, _, rfl⟩
theorem eqFields_sim {gh : Gh} {w : World} {X Y : List D} {us vs : Array Value} (hX : RepL gh w X us.toList) (hY : RepL gh w Y vs.toList) (d : Nat) : ∀ (fs : List Field) (i : Nat) (r : Bool),
    flatFs P i fs = true → (X.drop i).length = fs.length → (Y.drop i).length = fs.length → eqCells (X.drop i) (Y.drop i) = some r → (Op.eqFields (d + 1) us vs fs).run P w = .ok r w
  | [], i, r, hf, h1, h2, h => by
    rw [List.eq_nil_of_length_eq_zero h1, List.eq_nil_of_length_eq_zero h2] at h
    simp only [eqCells, Option.some.injEq] at h
    subst h
    simp [Op.eqFields]
  | f :: fs, i, r, hf, h1, h2, h => by
    simp only [flatFs, Bool.and_eq_true, bne_iff_ne, ne_eq, beq_iff_eq] at hf
    obtain ⟨⟨⟨⟨hname, hoff⟩, hsz⟩, hint⟩, hrest⟩ := hf
    have hl1 : i < X.length := by simp only [List.length_drop, List.length_cons] at h1; omega
    have hl2 : i < Y.length := by simp only [List.length_drop, List.length_cons] at h2; omega
    rw [List.drop_eq_getElem_cons hl1, List.drop_eq_getElem_cons hl2] at h
    have hagg : tyAgg P f.type = some false := by
      unfold tyAgg
      split at hint
      · rename_i k hu; rw [hu]; rfl
      · cases hint
    obtain ⟨k0, hu⟩ : ∃ k0, P.underlying f.type = some (.int k0) := by
      split at hint
      · rename_i k hu; exact ⟨k, hu⟩
      · cases hint
    cases hx : X[i] <;> rw [hx] at h <;> (try (simp only [eqCells, reduceCtorEq] at h; done))
    rename_i k a
    cases hy : Y[i] <;> rw [hy] at h <;> (try (simp only [eqCells, reduceCtorEq] at h; done))
    rename_i k' b
    simp only [eqCells] at h
    split at h
    · rename_i hk
      subst hk
      simp only [Option.map_eq_some_iff] at h
      obtain ⟨t, ht, rfl⟩ := h
      obtain ⟨u, hu1, hu2⟩ := run_part (P := P) (off := i) hagg hsz (show ofCells false X i 1 = some (.int k a) by simp [ofCells, List.getElem?_eq_getElem hl1, hx]) hX
      obtain ⟨v, hv1, hv2⟩ := run_part (P := P) (off := i) hagg hsz (show ofCells false Y i 1 = some (.int k b) by simp [ofCells, List.getElem?_eq_getElem hl2, hy]) hY
      simp only [Rep] at hu2 hv2
      subst hu2 hv2
      have ih := eqFields_sim hX hY d fs (i + 1) t hrest (by simp only [List.length_drop, List.length_cons] at h1 ⊢; omega) (by simp only [List.length_drop, List.length_cons] at h2 ⊢; omega) ht
      rw [Op.eqFields, if_pos hname, hoff]
      simp only [Sem.run_bind, hu1, hv1, Result.andThen_ok, run_equalIn_int w d f.type k k0 a b hu]
      cases hab : (a == b)
      · simp
      · simpa using ih
    · cases h
theorem eq_sim {neq lit : Bool} {t : TypeId} {x y d : D} (h : eqOf (eqKind P t) neq lit x y = some d) {a b : Operand} (hl : lit = (isLit a || isLit b)) {gh : Gh} {w : World} {u v : Value}
    (ha : ∀ c, a = .const c → u = c ∧ x = ofConst c) (hb : ∀ c, b = .const c → v = c ∧ y = ofConst c)
    (hx : Rep gh w x u) (hy : Rep gh w y v) :
    ∃ z, (do eqGuard (if neq then .neq else .eql) t a b u v; binOp (if neq then .neq else .eql) t u v : Sem Value).run P w = .ok z w ∧ Rep gh w d z := by
  have fin : ∀ {u v : Value} {r : Bool}, notNumStr u = true → (eqGuard (if neq then .neq else .eql) t a b u v).run P w = .ok () w → (Op.equalIn (9999 + 1) t u v).run P w = .ok r w →
      ∃ z, (do eqGuard (if neq then .neq else .eql) t a b u v; binOp (if neq then .neq else .eql) t u v : Sem Value).run P w = .ok z w ∧ Rep gh w (negIf neq r) z := by
    intro u v r hn hg he
    refine ⟨_, by simp only [Sem.run_bind, hg, Result.andThen_ok]; exact binOp_eq neq hn he, by simp [negIf, Rep]⟩
  have g0 : ∀ {u v : Value}, (match u, v with | .nilIface, .nilIface => false | .agg _, .agg _ => false | _, _ => true) = true → (eqGuard (if neq then .neq else .eql) t a b u v).run P w = .ok () w := by
    intro u v hq
    unfold eqGuard
    cases neq <;> cases u <;> cases v <;> simp at hq <;> simp
  unfold eqKind at h
  split at h
  · rename_i hu
    simp only [eqOf, eqBool, Option.bind_eq_some_iff, Option.some.injEq] at h
    obtain ⟨p, hp, q, hq, rfl⟩ := h
    have hp' := bool?_rep hp hx
    have hq' := bool?_rep hq hy
    subst hp' hq'
    exact fin rfl (g0 rfl) (equalIn_bool hu _ p q w)
  · rename_i ms hu
    simp only [eqOf, eqIface] at h
    split at h
    · split at h
      · rename_i hlt
        cases h
        simp only [Rep] at hx hy
        obtain ⟨rfl, _⟩ := hx
        obtain ⟨rfl, _⟩ := hy
        refine fin rfl ?_ (equalIn_nilIface hu _ w)
        rw [hl] at hlt
        unfold eqGuard
        cases neq <;> cases a <;> cases b <;> simp [isLit] at hlt <;> simp
      · cases h
    · cases h
      simp only [Rep] at hx hy
      obtain ⟨rfl, _⟩ := hx
      obtain ⟨y', rfl, _⟩ := hy
      exact fin rfl (g0 rfl) (equalIn_iface_l hu _ _ _ w)
    · cases h
      simp only [Rep] at hx hy
      obtain ⟨rfl, _⟩ := hy
      obtain ⟨y', rfl, _⟩ := hx
      exact fin rfl (g0 rfl) (equalIn_iface_r hu _ _ _ w)
    · cases h
  · rename_i e hu
    simp only [eqOf, eqPtr] at h
    split at h
    · cases h
      simp only [Rep] at hx hy
      obtain ⟨rfl, _⟩ := hx
      obtain ⟨rfl, _⟩ := hy
      exact fin rfl (g0 rfl) (equalIn_ptr_l hu _ _ w)
    · cases h
      simp only [Rep] at hx hy
      obtain ⟨rfl, _⟩ := hx
      obtain ⟨_, a', rfl, _⟩ := hy
      exact fin rfl (g0 rfl) (equalIn_ptr_l hu _ _ w)
    · cases h
      simp only [Rep] at hx hy
      obtain ⟨rfl, _⟩ := hx
      obtain ⟨b', o', rfl, _⟩ := hy
      exact fin rfl (g0 rfl) (equalIn_ptr_l hu _ _ w)
    · cases h
      simp only [Rep] at hx hy
      obtain ⟨rfl, _⟩ := hy
      obtain ⟨_, a', rfl, _⟩ := hx
      exact fin rfl (g0 rfl) (equalIn_ptr_r hu _ _ w)
    · cases h
      simp only [Rep] at hx hy
      obtain ⟨rfl, _⟩ := hy
      obtain ⟨b', o', rfl, _⟩ := hx
      exact fin rfl (g0 rfl) (equalIn_ptr_r hu _ _ w)
    · cases h
  · rename_i e hu
    simp only [eqOf, eqSlice] at h
    split at h
    · rename_i o es d0 ds
      split at h
      · rename_i hlt
        cases h
        rw [hl] at hlt
        have hv : v = .slice none 0 0 := by
          cases b with
          | const c =>
            obtain ⟨rfl, hc⟩ := hb c rfl
            exact const_nilSlice hc.symm
          | _ =>
            cases a with
            | const c =>
              obtain ⟨_, hc⟩ := ha c rfl
              exact (const_noElems hc.symm).elim
            | _ => simp [isLit] at hlt
        subst hv
        obtain ⟨a', l, c, rfl⟩ := rep_slCons hx
        exact fin rfl (g0 rfl) (equalIn_slice_r hu _ _ _ _ w)
      · cases h
    · cases h
  · rename_i fs hu
    split at h
    · rename_i hc
      simp only [Bool.and_eq_true, Bool.not_eq_true'] at hc
      obtain ⟨⟨hf, hst⟩, hgd⟩ := hc
      have hk : eqOf (100 + fs.toList.length) neq lit x y = eqAgg fs.toList.length neq x y := by
        unfold eqOf
        split
        all_goals (try omega)
        rw [if_pos (by omega)]
        congr 1
        omega
      rw [hk] at h
      simp only [eqAgg, Option.bind_eq_some_iff] at h
      obtain ⟨xs, hxs, ys, hys, h⟩ := h
      split at h
      · rename_i hl
        simp only [Option.map_eq_some_iff] at h
        obtain ⟨r, hr, rfl⟩ := h
        have hx' : x = .agg xs := by cases x <;> simp [D.agg?] at hxs; rw [hxs]
        have hy' : y = .agg ys := by cases y <;> simp [D.agg?] at hys; rw [hys]
        subst hx' hy'
        unfold Rep at hx hy
        obtain ⟨us, rfl, hX⟩ := hx
        obtain ⟨vs, rfl, hY⟩ := hy
        have hfs : P.fieldsOf t = fs := by unfold Program.fieldsOf; rw [hu]
        have hrun := eqFields_sim (P := P) hX hY 9998 fs.toList 0 r hf (by simpa using hl.1) (by simpa using hl.2) (by simpa using hr)
        refine fin rfl (run_eqGuard_agg w _ t a b us vs hgd) ?_
        rw [run_equalIn_struct w 9999 t us vs (by rw [hfs]; exact hu) hst, hfs]
        exact hrun
      · cases h
    · simp [eqOf] at h
  · simp [eqOf] at h
theorem bin_sim {op : BinOp} {t : TypeId} {x y d : D} {a b : Operand} (h : binD P op t (isLit a || isLit b) x y = some d) {gh : Gh} {w : World} {u v : Value}
    (ha : ∀ c, a = .const c → u = c ∧ x = ofConst c) (hb : ∀ c, b = .const c → v = c ∧ y = ofConst c)
    (hx : Rep gh w x u) (hy : Rep gh w y v) : ∃ z, (do eqGuard op t a b u v; binOp op t u v : Sem Value).run P w = .ok z w ∧ Rep gh w d z := by
  have h0 : ∀ op k k' n n', (eqGuard op t a b (.int k n) (.int k' n')).run P w = .ok () w := by intro op k k' n n'; unfold eqGuard; cases op <;> simp
  unfold binD binO at h
  split at h
  · simp only [Rep] at hx hy
    subst hx hy
    obtain ⟨z, h1, h2⟩ := shift_sim (P := P) h t gh w
    refine ⟨z, ?_, h2⟩
    simp only [Sem.run_bind, h0, Result.andThen_ok, h1]
  · simp only [Rep] at hx hy
    subst hx hy
    obtain ⟨z, h1, h2⟩ := shift_sim (P := P) h t gh w
    refine ⟨z, ?_, h2⟩
    simp only [Sem.run_bind, h0, Result.andThen_ok, h1]
  · rename_i n1 n2
    split at h
    · rename_i e
      subst e
      simp only [Rep] at hx hy
      subst hx hy
      have hs : op ≠ .shl ∧ op ≠ .shr := ⟨by rintro rfl; simp [intBinD] at h, by rintro rfl; simp [intBinD] at h⟩
      obtain ⟨z, h1, h2⟩ := intBin_sim (P := P) h hs t gh w
      refine ⟨z, ?_, h2⟩
      simp only [Sem.run_bind, h0, Result.andThen_ok, h1]
    · cases h
  · have hx' := str?_rep (s := _) (by rfl) hx
    have hy' := str?_rep (s := _) (by rfl) hy
    subst hx' hy'
    have hs : op ≠ .shl ∧ op ≠ .shr := ⟨by rintro rfl; simp [strBinD] at h, by rintro rfl; simp [strBinD] at h⟩
    obtain ⟨z, h1, h2⟩ := strBin_sim (P := P) h hs t gh w
    refine ⟨z, ?_, h2⟩
    have hg : ∀ s s', (eqGuard op t a b (.string s) (.string s')).run P w = .ok () w := by intro s s'; unfold eqGuard; cases op <;> simp
    simp only [Sem.run_bind, hg, Result.andThen_ok, h1]
  · have := eq_sim (P := P) (neq := false) h rfl ha hb hx hy
    simpa using this
  · have := eq_sim (P := P) (neq := true) h rfl ha hb hx hy
    simpa using this
  · cases h
theorem un_sim {op : UnOp} {x d : D} (h : unD op x = some d) {gh : Gh} {w : World} {u : Value} (hx : Rep gh w x u) :
    ∃ z, (Op.unary op u).run P w = .ok z w ∧ Rep gh w d z := by
  unfold unD at h
  split at h
  · simp only [Rep] at hx
    subst hx
    cases op <;> simp only [reduceCtorEq, Option.some.injEq] at h <;> subst h <;> simp [Op.unary, Op.intArith, Op.intBits, Rep]
  · simp only [Rep] at hx
    subst hx
    cases op <;> simp only [reduceCtorEq, Option.some.injEq] at h <;> subst h <;> simp [Op.unary, Rep]
  · cases h
theorem minMax_sim {mx : Bool} {xs : List D} {d : D} (h : minMaxD mx xs = some d) {gh : Gh} {w : World} {ts : Array TypeId} {t : TypeId} {us : Array Value} (hx : RepL gh w xs us.toList) :
    ∃ z, ((if mx then Builtin.max_ ts t us else Builtin.min_ ts t us)).run P w = .ok z w ∧ Rep gh w d z := by
  unfold minMaxD at h
  split at h
  · split at h
    · rename_i e
      subst e
      cases h
      simp only [RepL, Rep] at hx
      obtain ⟨v, r, hu, rfl, v', r', rfl, rfl, rfl⟩ := hx
      obtain ⟨us⟩ := us
      simp only at hu
      subst hu
      cases mx
      · simp only [Bool.false_eq_true, if_false, Builtin.min_, List.foldlM_cons, List.foldlM_nil, Builtin.min2]
        refine ⟨_, rfl, ?_⟩
        simp only [Rep]
        congr 1
        split <;> omega
      · simp only [if_true, Builtin.max_, List.foldlM_cons, List.foldlM_nil, Builtin.max2]
        refine ⟨_, rfl, ?_⟩
        simp only [Rep]
        congr 1
        split <;> omega
    · cases h
  · cases h
end Go.Vm
