/- RxAlive, RxX in one text. -/
import Derived.Test.YtikjlgcbcljehaaGreatDoorRxEv
import Derived.Test.YtikjlgcbcljehaaGreatDoorVmSimp
import Derived.Test.YtikjlgcbcljehaaGreatDoorVmClosed
import Derived.Shelf.Spec.SlicesGrow
import Derived.Lib.Bytealg
import Derived.KernelRfl
import Derived.Test.YtikjlgcbcljehaaGreatDoorVmSort
set_option linter.all false
/- alive answers true: reckoned. -/
namespace Go.Vm.Rx
open Go.Proofs
set_option maxRecDepth 100000
def isTrue : ORes → Bool
  | some (.ret (.bool true), _) => true
  | _ => false
theorem alive_ev : isTrue (ev 100000 100 10 [] []) = true := by kernel_rfl
theorem alive_run : ∃ A', Run Tryz.prog rxH 10 [] [] = some (.ret (.bool true), A') := by
  have h := alive_ev
  revert h
  cases hr : ev 100000 100 10 [] [] with
  | none => intro h; cases h
  | some r =>
    intro h
    obtain ⟨d, A'⟩ := r
    unfold isTrue at h
    split at h
    · rename_i A'' e
      cases e
      exact ⟨_, ev_le _ _ _ _ _ _ hr⟩
    · cases h
end Go.Vm.Rx

/- What is laid beside the run is right: a byte's place in a text; slices.Grow of the slice that is none; alive. -/
namespace Go.Vm.Rx
open Go Go.Proofs Go.Shelf Go.RowKit
set_option maxRecDepth 100000
set_option linter.unusedVariables false

/-! internal/bytealg.IndexByteString -/
theorem indexByte_sound : ∀ args A r, indexByteX args A = some r → Sound Tryz.prog 108 args A r := by
  intro args A r h
  unfold indexByteX at h
  split at h
  · rename_i s c
    cases h
    intro g w vs I hr
    right
    simp only [RepL, Rep] at hr
    obtain ⟨v, _, rfl, ⟨x, rfl, hs⟩, v2, _, rfl, rfl, rfl⟩ := hr
    have hrun := run_callFunc_extern (P := Tryz.prog) (f := 108) (e := Extern.BytealgIndexByte.indexByte) Tryz.func108 (by decide) (by kernel_rfl) (by kernel_rfl) (by kernel_rfl) #[.string x, .int .u8 c] w
    rw [Lib.run_indexByteString] at hrun
    refine ⟨.int .i64 (Lib.indexByte x.data.toList c.toNat.toUInt8), w, g, _, ?_, Ext.refl _ _, I, rfl, ?_⟩
    · simpa using hrun
    · simp [Rep, hs]
  · cases h

/-! slices.Grow -/
theorem grow_sound {f : FuncId} {fn : Func} (hf : Tryz.prog.funcs[f]? = some fn) (hok : fnOk fn = true) (es b : Nat) {ρ : Ren} (L : Lays8.n4 Tryz.prog ρ) (hρ : ρ.f 4 = f)
    (hinfo : (Tryz.prog.info? (ρ.t 25)).map (fun i => (i.size, i.bytes, i.zero.map (·.cells.size))) = some (es, b, some es)) (h0 : 0 < es) (hb0 : 0 < b) :
    ∀ args A r, growX es b args A = some r → Sound Tryz.prog f args A r := by
  intro args A r h
  simp only [Option.map_eq_some_iff, Prod.mk.injEq] at hinfo
  obtain ⟨i0, hi0, hes, hb, z, hz0, hzs⟩ := hinfo
  unfold growX at h
  split at h
  · rename_i n
    split at h
    · cases h
    · rename_i hn
      intro g w vs I hr
      left
      refine ⟨fnOk_run hf hok _ _, ?_⟩
      simp only [RepL] at hr
      obtain ⟨v, _, rfl, hv, v2, _, rfl, hv2, rfl⟩ := hr
      simp only [Rep] at hv hv2
      obtain ⟨a, cap, rfl, _, hcap, _⟩ := hv
      have hcap : cap = 0 := hcap
      subst hcap
      subst hv2
      obtain ⟨m, rfl⟩ : ∃ m : Nat, n = m := ⟨n.toNat, by omega⟩
      split at h
      · rename_i hm
        cases h
        have hm : m = 0 := by omega
        subst hm
        have := Any8.slices_Grow_room L a 0 0 0 w (Nat.le_refl _) (by omega) (by omega) (by omega)
        rw [hρ] at this
        refine this.mono fun e w' ⟨he, hw⟩ => ?_
        subst he hw
        refine ⟨g, Ext.refl _ _, I, ?_⟩
        show Rep _ _ _ _
        simp only [Rep]
        exact ⟨a, 0, rfl, Nat.le_refl _, rfl, fun h => absurd rfl h⟩
      · rename_i hm
        cases hroom : roomOk (m : Int).toNat b with
        | false => rw [hroom] at h; simp at h
        | true =>
          rw [hroom] at h
          simp only [cond_true, Option.some.injEq] at h
          subst h
          have hbig : m * b ≤ 140737488355328 := by simpa [roomOk] using hroom
          have hmb : m ≤ m * b := Nat.le_mul_of_pos_right _ hb0
          have := Any8.slices_Grow_grow L i0 z hi0 hz0 (by omega) a 0 0 m [] w (Nat.le_refl _) (by omega) (by rw [hb]; simpa using hbig) (by omega) (by simp) (fun _ => rfl) (by simp)
          rw [hρ] at this
          refine this.mono fun e w' ⟨he, hw⟩ => ?_
          subst he hw
          obtain ⟨E0, I0⟩ := I.drew
          generalize hC : (([] : List Value).toArray ++ Builtin.zeroCells z.cells (0 + m - 0) ++ Builtin.zeroCells z.cells (grownCap w (0 + m) 0 (ρ.t 25) - (0 + m))) = C
          obtain ⟨E1, I1, ha, ho⟩ := I0.alloc C (ρ.t 25) (0, 0)
          have hge : 0 + m ≤ grownCap w (0 + m) 0 (ρ.t 25) := grownCap_ge w _ _ _
          have hsize : C.size = grownCap w (0 + m) 0 (ρ.t 25) * es := by
            rw [← hC]
            simp only [Array.size_append, size_zeroCells, List.size_toArray, List.length_nil]
            rw [hzs, Nat.zero_add, ← Nat.add_mul]
            congr 1
            omega
          generalize grownCap w (0 + m) 0 (ρ.t 25) = c' at hge hsize ⊢
          have hg : g.len = A.length := I.len
          have hfz : ∀ (W : World) (j : Nat), (W.alloc (.cells C (ρ.t 25))).frozen? ⟨W.heap.size, j, none⟩ = false := fun W j => by simp
          obtain ⟨E2, I2⟩ := I1.bind_new (.tok (some (w.drew.heap.size, 0, c' * es)) 0) (.tok 0) ⟨rfl, fun b e lim hr j h1 h2 => by
            cases hr
            refine ⟨⟨C[j], ?_⟩, hfz _ j⟩
            rw [World.cell?_alloc_new, Array.getElem?_eq_getElem (by omega)]⟩ fun b off hown => by
            obtain ⟨rfl, _, _⟩ := hown
            exact ⟨ha off, fun k hk => ho k off hk⟩
          refine ⟨_, (E0.trans E1).trans E2, I2, ?_⟩
          show Rep _ _ _ _
          simp only [Rep, List.length_nil]
          refine ⟨_, c', rfl, Nat.zero_le _, ?_, fun hne => absurd rfl hne⟩
          simp only [OwnOk]
          refine ⟨by simp [hg], fun r q hm => ?_⟩
          rw [← hg] at hm
          simp only [upd_same, Bind.tok.injEq] at hm
          obtain ⟨rfl, rfl⟩ := hm
          exact ⟨by simp, fun _ => .inr ⟨_, _, _, 0, rfl, rfl, by simp, by simp⟩⟩
  · cases h
def renW : Ren := ⟨fun x => if x = 4 then 53 else x, fun x => if x = 22 then 76 else if x = 25 then 79 else x, fun x => x⟩
def renS : Ren := ⟨fun x => if x = 4 then 82 else x, fun x => if x = 22 then 33 else if x = 25 then 9 else x, fun x => x⟩
theorem laysW : Lays8.n4 Tryz.prog renW where
  mixed := by kernel_rfl
  f4 := ⟨"slices.Grow[[]milestone/api.Word,milestone/api.Word]", by decide, by kernel_rfl⟩
  t0 := Tryz.underlying0
  a0 := Tryz.isAgg0
  z0 := Tryz.sizeOf0
  v0 := Tryz.zeroValue0
  t3 := Tryz.underlying3
  a3 := Tryz.isAgg3
  z3 := Tryz.sizeOf3
  v3 := Tryz.zeroValue3
  t4 := Tryz.underlying4
  a4 := Tryz.isAgg4
  z4 := Tryz.sizeOf4
  v4 := Tryz.zeroValue4
  t9 := Tryz.underlying9
  a9 := Tryz.isAgg9
  z9 := Tryz.sizeOf9
  v9 := Tryz.zeroValue9
  t20 := Tryz.underlying20
  a20 := Tryz.isAgg20
  z20 := Tryz.sizeOf20
  v20 := Tryz.zeroValue20
  t22 := Tryz.underlying76
  a22 := Tryz.isAgg76
  z22 := Tryz.sizeOf76
  v22 := Tryz.zeroValue76
theorem laysS : Lays8.n4 Tryz.prog renS where
  mixed := by kernel_rfl
  f4 := ⟨"slices.Grow[[]string,string]", by decide, by kernel_rfl⟩
  t0 := Tryz.underlying0
  a0 := Tryz.isAgg0
  z0 := Tryz.sizeOf0
  v0 := Tryz.zeroValue0
  t3 := Tryz.underlying3
  a3 := Tryz.isAgg3
  z3 := Tryz.sizeOf3
  v3 := Tryz.zeroValue3
  t4 := Tryz.underlying4
  a4 := Tryz.isAgg4
  z4 := Tryz.sizeOf4
  v4 := Tryz.zeroValue4
  t9 := Tryz.underlying9
  a9 := Tryz.isAgg9
  z9 := Tryz.sizeOf9
  v9 := Tryz.zeroValue9
  t20 := Tryz.underlying20
  a20 := Tryz.isAgg20
  z20 := Tryz.sizeOf20
  v20 := Tryz.zeroValue20
  t22 := Tryz.underlying33
  a22 := Tryz.isAgg33
  z22 := Tryz.sizeOf33
  v22 := Tryz.zeroValue33
def laysOR : Ren := ⟨fun x => if x = 190 then 35 else if x = 125 then 49 else if x = 258 then 48 else if x = 128 then 74 else if x = 129 then 75 else if x = 302 then 65 else if x = 303 then 66 else if x = 304 then 67 else if x = 305 then 68 else if x = 306 then 69 else if x = 307 then 70 else if x = 308 then 71 else if x = 309 then 72 else if x = 310 then 73 else if x = 333 then 85 else if x = 329 then 86 else if x = 330 then 87 else if x = 334 then 88 else if x = 335 then 89 else if x = 336 then 90 else if x = 344 then 99 else x, fun x => if x = 31 then 33 else if x = 46 then 89 else if x = 51 then 128 else if x = 53 then 130 else if x = 183 then 120 else if x = 182 then 119 else if x = 131 then 125 else if x = 218 then 140 else if x = 222 then 144 else if x = 228 then 152 else if x = 229 then 64 else x, fun x => x⟩
theorem laysO : Lays.n190 Tryz.prog laysOR where
  mixed := by kernel_rfl
  f125 := Tryz.func49.trans (congrArg some (by kernel_rfl))
  f128 := Tryz.func74.trans (congrArg some (by kernel_rfl))
  f129 := Tryz.func75.trans (congrArg some (by kernel_rfl))
  f190 := Tryz.func35.trans (congrArg some (by kernel_rfl))
  f258 := Tryz.func48.trans (congrArg some (by kernel_rfl))
  f302 := Tryz.func65.trans (congrArg some (by kernel_rfl))
  f303 := Tryz.func66.trans (congrArg some (by kernel_rfl))
  f304 := Tryz.func67.trans (congrArg some (by kernel_rfl))
  f305 := Tryz.func68.trans (congrArg some (by kernel_rfl))
  f306 := Tryz.func69.trans (congrArg some (by kernel_rfl))
  f307 := Tryz.func70.trans (congrArg some (by kernel_rfl))
  f308 := Tryz.func71.trans (congrArg some (by kernel_rfl))
  f309 := Tryz.func72.trans (congrArg some (by kernel_rfl))
  f310 := Tryz.func73.trans (congrArg some (by kernel_rfl))
  f329 := Tryz.func86.trans (congrArg some (by kernel_rfl))
  f330 := Tryz.func87.trans (congrArg some (by kernel_rfl))
  f333 := Tryz.func85.trans (congrArg some (by kernel_rfl))
  f334 := Tryz.func88.trans (congrArg some (by kernel_rfl))
  f335 := Tryz.func89.trans (congrArg some (by kernel_rfl))
  f336 := Tryz.func90.trans (congrArg some (by kernel_rfl))
  f344 := Tryz.func99.trans (congrArg some (by kernel_rfl))
  t0 := Tryz.underlying0
  a0 := Tryz.isAgg0
  z0 := Tryz.sizeOf0
  v0 := Tryz.zeroValue0
  t3 := Tryz.underlying3
  a3 := Tryz.isAgg3
  z3 := Tryz.sizeOf3
  v3 := Tryz.zeroValue3
  t4 := Tryz.underlying4
  a4 := Tryz.isAgg4
  z4 := Tryz.sizeOf4
  v4 := Tryz.zeroValue4
  t5 := Tryz.underlying5
  a5 := Tryz.isAgg5
  z5 := Tryz.sizeOf5
  v5 := Tryz.zeroValue5
  t9 := Tryz.underlying9
  a9 := Tryz.isAgg9
  z9 := Tryz.sizeOf9
  v9 := Tryz.zeroValue9
  t31 := Tryz.underlying33
  a31 := Tryz.isAgg33
  z31 := Tryz.sizeOf33
  v31 := Tryz.zeroValue33
  t46 := Tryz.underlying89
  a46 := Tryz.isAgg89
  z46 := Tryz.sizeOf89
  v46 := Tryz.zeroValue89
  t51 := Tryz.underlying128
  a51 := Tryz.isAgg128
  z51 := Tryz.sizeOf128
  v51 := Tryz.zeroValue128
  t53 := Tryz.underlying130
  a53 := Tryz.isAgg130
  z53 := Tryz.sizeOf130
  v53 := Tryz.zeroValue130
  t131 := Tryz.underlying125
  a131 := Tryz.isAgg125
  z131 := Tryz.sizeOf125
  v131 := Tryz.zeroValue125
  t182 := Tryz.underlying119
  a182 := Tryz.isAgg119
  z182 := Tryz.sizeOf119
  v182 := Tryz.zeroValue119
  t183 := Tryz.underlying120
  a183 := Tryz.isAgg120
  z183 := Tryz.sizeOf120
  v183 := Tryz.zeroValue120
  t218 := Tryz.underlying140
  a218 := Tryz.isAgg140
  z218 := Tryz.sizeOf140
  v218 := Tryz.zeroValue140
  t222 := Tryz.underlying144
  a222 := Tryz.isAgg144
  z222 := Tryz.sizeOf144
  v222 := Tryz.zeroValue144
  t228 := Tryz.underlying152
  a228 := Tryz.isAgg152
  z228 := Tryz.sizeOf152
  v228 := Tryz.zeroValue152
  t229 := Tryz.underlying64
  a229 := Tryz.isAgg64
  z229 := Tryz.sizeOf64
  v229 := Tryz.zeroValue64
def laysCR : Ren := ⟨fun x => if x = 194 then 36 else x, fun x => if x = 31 then 33 else x, fun x => x⟩
theorem laysC : Lays.n194 Tryz.prog laysCR where
  mixed := by kernel_rfl
  f194 := Tryz.func36.trans (congrArg some (by kernel_rfl))
  t0 := Tryz.underlying0
  a0 := Tryz.isAgg0
  z0 := Tryz.sizeOf0
  v0 := Tryz.zeroValue0
  t3 := Tryz.underlying3
  a3 := Tryz.isAgg3
  z3 := Tryz.sizeOf3
  v3 := Tryz.zeroValue3
  t4 := Tryz.underlying4
  a4 := Tryz.isAgg4
  z4 := Tryz.sizeOf4
  v4 := Tryz.zeroValue4
  t9 := Tryz.underlying9
  a9 := Tryz.isAgg9
  z9 := Tryz.sizeOf9
  v9 := Tryz.zeroValue9
  t31 := Tryz.underlying33
  a31 := Tryz.isAgg33
  z31 := Tryz.sizeOf33
  v31 := Tryz.zeroValue33
theorem lib_ok : ExtOk Tryz.prog rxH := by
  intro f x h
  have h' : rxExt f = some x := h
  unfold rxExt at h'
  split at h'
  · cases h'; exact indexByte_sound
  · cases h'
    exact grow_sound Tryz.func53 (by kernel_rfl) 3 32 laysW rfl (by kernel_rfl) (by decide) (by decide)
  · cases h'
    exact grow_sound Tryz.func82 (by kernel_rfl) 1 16 laysS rfl (by kernel_rfl) (by decide) (by decide)
  · cases h'
    exact sort_sound Tryz.func35 (by kernel_rfl) laysO rfl
  · cases h'
    exact compact_sound Tryz.func36 (by kernel_rfl) laysC rfl
  · cases h'
theorem alive_ok : ExtOk Tryz.prog rxA := by
  intro f x h
  have h' : rxExtA f = some x := h
  unfold rxExtA at h'
  split at h'
  · cases h'
    intro args A r hr
    unfold aliveX at hr
    split at hr
    · cases hr
      obtain ⟨A', hA⟩ := alive_run
      exact closed_sound lib_ok hA A
    · cases hr
  · exact lib_ok _ x h'
end Go.Vm.Rx
