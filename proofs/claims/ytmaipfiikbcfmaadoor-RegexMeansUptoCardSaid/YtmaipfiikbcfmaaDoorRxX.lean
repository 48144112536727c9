/- RxAlive, RxX in one text. -/
import Derived.Test.YtmaipfiikbcfmaaDoorRxEv
import Derived.Test.YtmaipfiikbcfmaaDoorVmSimp
import Derived.Test.YtmaipfiikbcfmaaDoorVmClosed
import Derived.Shelf.Spec.SlicesGrow
import Derived.Lib.Bytealg
import Derived.KernelRfl
set_option linter.all false
/- alive answers true: reckoned. -/
namespace Go.Vm.Rx
open Go.Proofs
set_option maxRecDepth 100000
def isTrue : ORes → Bool
  | some (.ret (.bool true), _) => true
  | _ => false
theorem alive_ev : isTrue (ev 100000 100 12 [] []) = true := by kernel_rfl
theorem alive_run : ∃ A', Run Tryd.prog rxH 12 [] [] = some (.ret (.bool true), A') := by
  have h := alive_ev
  revert h
  cases hr : ev 100000 100 12 [] [] with
  | none => intro h; cases h
  | some r =>
    intro h
    obtain ⟨d, A'⟩ := r
    unfold isTrue at h
    split at h
    · rename_i A'' e
      cases e
      exact ⟨_, ev_le _ _ _ _ _ _ hr⟩
    · cases h
end Go.Vm.Rx

/- What is laid beside the run is right: a byte's place in a text; slices.Grow of the slice that is none; alive. -/
namespace Go.Vm.Rx
open Go Go.Proofs Go.Shelf Go.RowKit
set_option maxRecDepth 100000
set_option linter.unusedVariables false

/-! internal/bytealg.IndexByteString -/
theorem indexByte_sound : ∀ args A r, indexByteX args A = some r → Sound Tryd.prog 108 args A r := by
  intro args A r h
  unfold indexByteX at h
  split at h
  · rename_i s c
    cases h
    intro g w vs I hr
    right
    simp only [RepL, Rep] at hr
    obtain ⟨v, _, rfl, ⟨x, rfl, hs⟩, v2, _, rfl, rfl, rfl⟩ := hr
    have hrun := run_callFunc_extern (P := Tryd.prog) (f := 108) (e := Extern.BytealgIndexByte.indexByte) Tryd.func108 (by decide) (by kernel_rfl) (by kernel_rfl) (by kernel_rfl) #[.string x, .int .u8 c] w
    rw [Lib.run_indexByteString] at hrun
    refine ⟨.int .i64 (Lib.indexByte x.data.toList c.toNat.toUInt8), w, g, _, ?_, Ext.refl _ _, I, rfl, ?_⟩
    · simpa using hrun
    · simp [Rep, hs]
  · cases h

/-! slices.Grow -/
theorem grow_sound {f : FuncId} {fn : Func} (hf : Tryd.prog.funcs[f]? = some fn) (hok : fnOk fn = true) (es b : Nat) {ρ : Ren} (L : Lays8.n4 Tryd.prog ρ) (hρ : ρ.f 4 = f)
    (hinfo : (Tryd.prog.info? (ρ.t 25)).map (fun i => (i.size, i.bytes, i.zero.map (·.cells.size))) = some (es, b, some es)) (h0 : 0 < es) (hb0 : 0 < b) :
    ∀ args A r, growX es b args A = some r → Sound Tryd.prog f args A r := by
  intro args A r h
  simp only [Option.map_eq_some_iff, Prod.mk.injEq] at hinfo
  obtain ⟨i0, hi0, hes, hb, z, hz0, hzs⟩ := hinfo
  unfold growX at h
  split at h
  · rename_i n
    split at h
    · cases h
    · rename_i hn
      intro g w vs I hr
      left
      refine ⟨fnOk_run hf hok _ _, ?_⟩
      simp only [RepL] at hr
      obtain ⟨v, _, rfl, hv, v2, _, rfl, hv2, rfl⟩ := hr
      simp only [Rep] at hv hv2
      obtain ⟨a, cap, rfl, _, hcap, _⟩ := hv
      have hcap : cap = 0 := hcap
      subst hcap
      subst hv2
      obtain ⟨m, rfl⟩ : ∃ m : Nat, n = m := ⟨n.toNat, by omega⟩
      split at h
      · rename_i hm
        cases h
        have hm : m = 0 := by omega
        subst hm
        have := Any8.slices_Grow_room L a 0 0 0 w (Nat.le_refl _) (by omega) (by omega) (by omega)
        rw [hρ] at this
        refine this.mono fun e w' ⟨he, hw⟩ => ?_
        subst he hw
        refine ⟨g, Ext.refl _ _, I, ?_⟩
        show Rep _ _ _ _
        simp only [Rep]
        exact ⟨a, 0, rfl, Nat.le_refl _, rfl, fun h => absurd rfl h⟩
      · rename_i hm
        cases hroom : roomOk (m : Int).toNat b with
        | false => rw [hroom] at h; simp at h
        | true =>
          rw [hroom] at h
          simp only [cond_true, Option.some.injEq] at h
          subst h
          have hbig : m * b ≤ 140737488355328 := by simpa [roomOk] using hroom
          have hmb : m ≤ m * b := Nat.le_mul_of_pos_right _ hb0
          have := Any8.slices_Grow_grow L i0 z hi0 hz0 (by omega) a 0 0 m [] w (Nat.le_refl _) (by omega) (by rw [hb]; simpa using hbig) (by omega) (by simp) (fun _ => rfl) (by simp)
          rw [hρ] at this
          refine this.mono fun e w' ⟨he, hw⟩ => ?_
          subst he hw
          obtain ⟨E0, I0⟩ := I.drew
          generalize hC : (([] : List Value).toArray ++ Builtin.zeroCells z.cells (0 + m - 0) ++ Builtin.zeroCells z.cells (grownCap w (0 + m) 0 (ρ.t 25) - (0 + m))) = C
          obtain ⟨E1, I1, ha, ho⟩ := I0.alloc C (ρ.t 25) (0, 0)
          have hge : 0 + m ≤ grownCap w (0 + m) 0 (ρ.t 25) := grownCap_ge w _ _ _
          have hsize : C.size = grownCap w (0 + m) 0 (ρ.t 25) * es := by
            rw [← hC]
            simp only [Array.size_append, size_zeroCells, List.size_toArray, List.length_nil]
            rw [hzs, Nat.zero_add, ← Nat.add_mul]
            congr 1
            omega
          generalize grownCap w (0 + m) 0 (ρ.t 25) = c' at hge hsize ⊢
          have hg : g.len = A.length := I.len
          have hfz : ∀ (W : World) (j : Nat), (W.alloc (.cells C (ρ.t 25))).frozen? ⟨W.heap.size, j, none⟩ = false := fun W j => by simp
          obtain ⟨E2, I2⟩ := I1.bind_new (.tok (some (w.drew.heap.size, 0, c' * es)) 0) (.tok 0) ⟨rfl, fun b e lim hr j h1 h2 => by
            cases hr
            refine ⟨⟨C[j], ?_⟩, hfz _ j⟩
            rw [World.cell?_alloc_new, Array.getElem?_eq_getElem (by omega)]⟩ fun b off hown => by
            obtain ⟨rfl, _, _⟩ := hown
            exact ⟨ha off, fun k hk => ho k off hk⟩
          refine ⟨_, (E0.trans E1).trans E2, I2, ?_⟩
          show Rep _ _ _ _
          simp only [Rep, List.length_nil]
          refine ⟨_, c', rfl, Nat.zero_le _, ?_, fun hne => absurd rfl hne⟩
          simp only [OwnOk]
          refine ⟨by simp [hg], fun r q hm => ?_⟩
          rw [← hg] at hm
          simp only [upd_same, Bind.tok.injEq] at hm
          obtain ⟨rfl, rfl⟩ := hm
          exact ⟨by simp, fun _ => .inr ⟨_, _, _, 0, rfl, rfl, by simp, by simp⟩⟩
  · cases h
def renW : Ren := ⟨fun x => if x = 4 then 49 else x, fun x => if x = 22 then 34 else if x = 25 then 60 else x, fun x => x⟩
def renS : Ren := ⟨fun x => if x = 4 then 82 else x, fun x => if x = 22 then 65 else if x = 25 then 9 else x, fun x => x⟩
theorem laysW : Lays8.n4 Tryd.prog renW where
  mixed := by kernel_rfl
  f4 := ⟨"slices.Grow[[]milestone/api.Word,milestone/api.Word]", by decide, by kernel_rfl⟩
  t0 := Tryd.underlying0
  a0 := Tryd.isAgg0
  z0 := Tryd.sizeOf0
  v0 := Tryd.zeroValue0
  t3 := Tryd.underlying3
  a3 := Tryd.isAgg3
  z3 := Tryd.sizeOf3
  v3 := Tryd.zeroValue3
  t4 := Tryd.underlying4
  a4 := Tryd.isAgg4
  z4 := Tryd.sizeOf4
  v4 := Tryd.zeroValue4
  t9 := Tryd.underlying9
  a9 := Tryd.isAgg9
  z9 := Tryd.sizeOf9
  v9 := Tryd.zeroValue9
  t20 := Tryd.underlying20
  a20 := Tryd.isAgg20
  z20 := Tryd.sizeOf20
  v20 := Tryd.zeroValue20
  t22 := Tryd.underlying34
  a22 := Tryd.isAgg34
  z22 := Tryd.sizeOf34
  v22 := Tryd.zeroValue34
theorem laysS : Lays8.n4 Tryd.prog renS where
  mixed := by kernel_rfl
  f4 := ⟨"slices.Grow[[]string,string]", by decide, by kernel_rfl⟩
  t0 := Tryd.underlying0
  a0 := Tryd.isAgg0
  z0 := Tryd.sizeOf0
  v0 := Tryd.zeroValue0
  t3 := Tryd.underlying3
  a3 := Tryd.isAgg3
  z3 := Tryd.sizeOf3
  v3 := Tryd.zeroValue3
  t4 := Tryd.underlying4
  a4 := Tryd.isAgg4
  z4 := Tryd.sizeOf4
  v4 := Tryd.zeroValue4
  t9 := Tryd.underlying9
  a9 := Tryd.isAgg9
  z9 := Tryd.sizeOf9
  v9 := Tryd.zeroValue9
  t20 := Tryd.underlying20
  a20 := Tryd.isAgg20
  z20 := Tryd.sizeOf20
  v20 := Tryd.zeroValue20
  t22 := Tryd.underlying65
  a22 := Tryd.isAgg65
  z22 := Tryd.sizeOf65
  v22 := Tryd.zeroValue65
theorem lib_ok : ExtOk Tryd.prog rxH := by
  intro f x h
  have h' : rxExt f = some x := h
  unfold rxExt at h'
  split at h'
  · cases h'; exact indexByte_sound
  · cases h'
    exact grow_sound Tryd.func49 (by kernel_rfl) 3 32 laysW rfl (by kernel_rfl) (by decide) (by decide)
  · cases h'
    exact grow_sound Tryd.func82 (by kernel_rfl) 1 16 laysS rfl (by kernel_rfl) (by decide) (by decide)
  · cases h'
theorem alive_ok : ExtOk Tryd.prog rxA := by
  intro f x h
  have h' : rxExtA f = some x := h
  unfold rxExtA at h'
  split at h'
  · cases h'
    intro args A r hr
    unfold aliveX at hr
    split at hr
    · cases hr
      obtain ⟨A', hA⟩ := alive_run
      exact closed_sound lib_ok hA A
    · cases hr
  · exact lib_ok _ x h'
end Go.Vm.Rx
