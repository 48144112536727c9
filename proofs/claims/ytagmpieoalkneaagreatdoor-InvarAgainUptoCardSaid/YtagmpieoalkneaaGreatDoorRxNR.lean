/- RxX, RxArgI, RxNR in one text. -/
import Derived.Test.YtagmpieoalkneaaGreatDoorRxAlive
import Derived.Test.YtagmpieoalkneaaGreatDoorVmSimp
import Derived.Test.YtagmpieoalkneaaGreatDoorVmClosed
import Derived.Shelf.Spec.SlicesGrow
import Derived.Lib.Bytealg
import Derived.KernelRfl
import Derived.Test.YtagmpieoalkneaaGreatDoorVmSort
import Derived.Test.YtagmpieoalkneaaGreatDoorRxOk
import Derived.Test.YtagmpieoalkneaaGreatDoorRxI8
import Derived.Test.YtagmpieoalkneaaGreatDoorRows
set_option linter.all false
/- What is laid beside the run is right: a byte's place in a text; slices.Grow of the slice that is none; alive. -/
namespace Go.Vm.Rx
open Go Go.Proofs Go.Shelf Go.RowKit
set_option maxRecDepth 100000

theorem indexByte_sound : ∀ args A r,indexByteX args A = some r → Sound Tryz.prog 193 args A r:=by
  intro args A r h
  unfold indexByteX at h
  split at h
  · rename_i s c
    cases h
    intro g w vs I hr
    right
    simp only [RepL,Rep] at hr
    obtain ⟨v,_,rfl,⟨x,rfl,hs⟩,v2,_,rfl,rfl,rfl⟩:=hr
    have hrun:=run_callFunc_extern (P:=Tryz.prog) (f:=193) (e:=Extern.BytealgIndexByte.indexByte) Tryz.func193 (by decide) (by kernel_rfl) (by kernel_rfl) (by kernel_rfl) #[.string x,.int .u8 c] w
    rw [Lib.run_indexByteString] at hrun
    refine ⟨.int .i64 (Lib.indexByte x.data.toList c.toNat.toUInt8),w,g,_, ?_,Ext.refl _ _,I,rfl, ?_⟩
    · simpa using hrun
    · simp [Rep,hs]
  · cases h

theorem grow_sound {f : FuncId} {fn : Func} (hf : Tryz.prog.funcs[f]? = some fn) (hok : fnOk fn = true) (es b : Nat) {ρ : Ren} (L : Lays8.n4 Tryz.prog ρ) (hρ : ρ.f 4 = f)
    (hinfo : (Tryz.prog.info? (ρ.t 25)).map (fun i => (i.size,i.bytes,i.zero.map (·.cells.size))) = some (es,b,some es)) (h0 : 0 < es) (hb0 : 0 < b) :
    ∀ args A r,growX es b args A = some r → Sound Tryz.prog f args A r:=by
  intro args A r h
  simp only [Option.map_eq_some_iff,Prod.mk.injEq] at hinfo
  obtain ⟨i0,hi0,hes,hb,z,hz0,hzs⟩:=hinfo
  unfold growX at h
  split at h
  · rename_i n
    split at h
    · cases h
    · rename_i hn
      intro g w vs I hr
      left
      refine ⟨fnOk_run hf hok _ _, ?_⟩
      simp only [RepL] at hr
      obtain ⟨v,_,rfl,hv,v2,_,rfl,hv2,rfl⟩:=hr
      simp only [Rep] at hv hv2
      obtain ⟨a,cap,rfl,_,hcap,_⟩:=hv
      have hcap : cap = 0:=hcap
      subst hcap
      subst hv2
      obtain ⟨m,rfl⟩ : ∃ m : Nat,n = m:=⟨n.toNat,by omega⟩
      split at h
      · rename_i hm
        cases h
        have hm : m = 0:=by omega
        subst hm
        have:=Any8.slices_Grow_room L a 0 0 0 w (Nat.le_refl _) (by omega) (by omega) (by omega)
        rw [hρ] at this
        refine this.mono fun e w' ⟨he,hw⟩ => ?_
        subst he hw
        refine ⟨g,Ext.refl _ _,I, ?_⟩
        show Rep _ _ _ _
        simp only [Rep]
        exact ⟨a,0,rfl,Nat.le_refl _,rfl,fun h => absurd rfl h⟩
      · rename_i hm
        cases hroom : roomOk (m : Int).toNat b with
        | false => rw [hroom] at h; simp at h
        | true =>
          rw [hroom] at h
          simp only [cond_true,Option.some.injEq] at h
          subst h
          have hbig : m * b ≤ 140737488355328:=by simpa [roomOk] using hroom
          have hmb : m ≤ m * b:=Nat.le_mul_of_pos_right _ hb0
          have:=Any8.slices_Grow_grow L i0 z hi0 hz0 (by omega) a 0 0 m [] w (Nat.le_refl _) (by omega) (by rw [hb]; simpa using hbig) (by omega) (by simp) (fun _ => rfl) (by simp)
          rw [hρ] at this
          refine this.mono fun e w' ⟨he,hw⟩ => ?_
          subst he hw
          obtain ⟨E0,I0⟩:=I.drew
          generalize hC : (([] : List Value).toArray ++ Builtin.zeroCells z.cells (0 + m - 0) ++ Builtin.zeroCells z.cells (grownCap w (0 + m) 0 (ρ.t 25) - (0 + m))) = C
          obtain ⟨E1,I1,ha,ho⟩:=I0.alloc C (ρ.t 25) (0,0)
          have hge : 0 + m ≤ grownCap w (0 + m) 0 (ρ.t 25):=grownCap_ge w _ _ _
          have hsize : C.size = grownCap w (0 + m) 0 (ρ.t 25) * es:=by
            rw [← hC]
            simp only [Array.size_append,size_zeroCells,List.size_toArray,List.length_nil]
            rw [hzs,Nat.zero_add,← Nat.add_mul]
            congr 1
            omega
          generalize grownCap w (0 + m) 0 (ρ.t 25) = c' at hge hsize ⊢
          have hg : g.len = A.length:=I.len
          have hfz : ∀ (W : World) (j : Nat),(W.alloc (.cells C (ρ.t 25))).frozen? ⟨W.heap.size,j,none⟩ = false:=fun W j => by simp
          obtain ⟨E2,I2⟩:=I1.bind_new (.tok (some (w.drew.heap.size,0,c' * es)) 0) (.tok 0) ⟨rfl,fun b e lim hr j h1 h2 => by
            cases hr
            refine ⟨⟨C[j], ?_⟩,hfz _ j⟩
            rw [World.cell?_alloc_new,Array.getElem?_eq_getElem (by omega)]⟩ fun b off hown => by
            obtain ⟨rfl,_,_⟩:=hown
            exact ⟨ha off,fun k hk => ho k off hk⟩
          refine ⟨_,(E0.trans E1).trans E2,I2, ?_⟩
          show Rep _ _ _ _
          simp only [Rep,List.length_nil]
          refine ⟨_,c',rfl,Nat.zero_le _, ?_,fun hne => absurd rfl hne⟩
          simp only [OwnOk]
          refine ⟨by simp [hg],fun r q hm => ?_⟩
          rw [← hg] at hm
          simp only [upd_same,Bind.tok.injEq] at hm
          obtain ⟨rfl,rfl⟩:=hm
          exact ⟨by simp,fun _ => .inr ⟨_,_,_,0,rfl,rfl,by simp,by simp⟩⟩
  · cases h
def laysIR : Ren:=⟨fun x => if x = 22 then 110 else if x = 29 then 143 else if x = 30 then 144 else if x = 36 then 170 else if x = 17 then 194 else x,fun x => if x = 24 then 34 else x,fun x => x⟩
theorem laysI : Lays2.n22 Tryz.prog laysIR where
  mixed:=by kernel_rfl
  f17:=Tryz.func194.trans (congrArg some (by kernel_rfl))
  f22:=Tryz.func110.trans (congrArg some (by kernel_rfl))
  f29:=Tryz.func143.trans (congrArg some (by kernel_rfl))
  f30:=Tryz.func144.trans (congrArg some (by kernel_rfl))
  f36:=Tryz.func170.trans (congrArg some (by kernel_rfl))
  t0:=Tryz.underlying0
  a0:=Tryz.isAgg0
  z0:=Tryz.sizeOf0
  v0:=Tryz.zeroValue0
  t3:=Tryz.underlying3
  a3:=Tryz.isAgg3
  z3:=Tryz.sizeOf3
  v3:=Tryz.zeroValue3
  t4:=Tryz.underlying4
  a4:=Tryz.isAgg4
  z4:=Tryz.sizeOf4
  v4:=Tryz.zeroValue4
  t9:=Tryz.underlying9
  a9:=Tryz.isAgg9
  z9:=Tryz.sizeOf9
  v9:=Tryz.zeroValue9
  t24:=Tryz.underlying34
  a24:=Tryz.isAgg34
  z24:=Tryz.sizeOf34
  v24:=Tryz.zeroValue34
  i9:=by kernel_rfl
def laysBR : Ren:=⟨fun x => if x = 26 then 109 else if x = 33 then 141 else if x = 34 then 142 else if x = 38 then 169 else x,fun x => if x = 24 then 34 else if x = 40 then 202 else x,fun x => x⟩
theorem laysB : Lays2.n26 Tryz.prog laysBR where
  mixed:=by kernel_rfl
  f26:=Tryz.func109.trans (congrArg some (by kernel_rfl))
  f33:=Tryz.func141.trans (congrArg some (by kernel_rfl))
  f34:=Tryz.func142.trans (congrArg some (by kernel_rfl))
  f38:=Tryz.func169.trans (congrArg some (by kernel_rfl))
  t0:=Tryz.underlying0
  a0:=Tryz.isAgg0
  z0:=Tryz.sizeOf0
  v0:=Tryz.zeroValue0
  t3:=Tryz.underlying3
  a3:=Tryz.isAgg3
  z3:=Tryz.sizeOf3
  v3:=Tryz.zeroValue3
  t4:=Tryz.underlying4
  a4:=Tryz.isAgg4
  z4:=Tryz.sizeOf4
  v4:=Tryz.zeroValue4
  t9:=Tryz.underlying9
  a9:=Tryz.isAgg9
  z9:=Tryz.sizeOf9
  v9:=Tryz.zeroValue9
  t24:=Tryz.underlying34
  a24:=Tryz.isAgg34
  z24:=Tryz.sizeOf34
  v24:=Tryz.zeroValue34
  t40:=Tryz.underlying202
  a40:=Tryz.isAgg202
  z40:=Tryz.sizeOf202
  v40:=Tryz.zeroValue202
def laysOR : Ren:=⟨fun x => if x = 190 then 129 else if x = 125 then 164 else if x = 258 then 163 else if x = 128 then 189 else if x = 129 then 176 else if x = 302 then 181 else if x = 303 then 182 else if x = 304 then 183 else if x = 305 then 184 else if x = 306 then 185 else if x = 307 then 186 else if x = 308 then 141 else if x = 309 then 187 else if x = 310 then 188 else if x = 333 then 199 else if x = 329 then 200 else if x = 330 then 201 else if x = 334 then 202 else if x = 335 then 203 else if x = 336 then 169 else if x = 344 then 206 else x,fun x => if x = 31 then 34 else if x = 46 then 202 else if x = 51 then 222 else if x = 53 then 210 else if x = 183 then 228 else if x = 182 then 227 else if x = 131 then 95 else if x = 218 then 238 else if x = 222 then 242 else if x = 228 then 248 else if x = 229 then 143 else x,fun x => x⟩
theorem laysO : Lays.n190 Tryz.prog laysOR where
  mixed:=by kernel_rfl
  f125:=Tryz.func164.trans (congrArg some (by kernel_rfl))
  f128:=Tryz.func189.trans (congrArg some (by kernel_rfl))
  f129:=Tryz.func176.trans (congrArg some (by kernel_rfl))
  f190:=Tryz.func129.trans (congrArg some (by kernel_rfl))
  f258:=Tryz.func163.trans (congrArg some (by kernel_rfl))
  f302:=Tryz.func181.trans (congrArg some (by kernel_rfl))
  f303:=Tryz.func182.trans (congrArg some (by kernel_rfl))
  f304:=Tryz.func183.trans (congrArg some (by kernel_rfl))
  f305:=Tryz.func184.trans (congrArg some (by kernel_rfl))
  f306:=Tryz.func185.trans (congrArg some (by kernel_rfl))
  f307:=Tryz.func186.trans (congrArg some (by kernel_rfl))
  f308:=Tryz.func141.trans (congrArg some (by kernel_rfl))
  f309:=Tryz.func187.trans (congrArg some (by kernel_rfl))
  f310:=Tryz.func188.trans (congrArg some (by kernel_rfl))
  f329:=Tryz.func200.trans (congrArg some (by kernel_rfl))
  f330:=Tryz.func201.trans (congrArg some (by kernel_rfl))
  f333:=Tryz.func199.trans (congrArg some (by kernel_rfl))
  f334:=Tryz.func202.trans (congrArg some (by kernel_rfl))
  f335:=Tryz.func203.trans (congrArg some (by kernel_rfl))
  f336:=Tryz.func169.trans (congrArg some (by kernel_rfl))
  f344:=Tryz.func206.trans (congrArg some (by kernel_rfl))
  t0:=Tryz.underlying0
  a0:=Tryz.isAgg0
  z0:=Tryz.sizeOf0
  v0:=Tryz.zeroValue0
  t3:=Tryz.underlying3
  a3:=Tryz.isAgg3
  z3:=Tryz.sizeOf3
  v3:=Tryz.zeroValue3
  t4:=Tryz.underlying4
  a4:=Tryz.isAgg4
  z4:=Tryz.sizeOf4
  v4:=Tryz.zeroValue4
  t5:=Tryz.underlying5
  a5:=Tryz.isAgg5
  z5:=Tryz.sizeOf5
  v5:=Tryz.zeroValue5
  t9:=Tryz.underlying9
  a9:=Tryz.isAgg9
  z9:=Tryz.sizeOf9
  v9:=Tryz.zeroValue9
  t31:=Tryz.underlying34
  a31:=Tryz.isAgg34
  z31:=Tryz.sizeOf34
  v31:=Tryz.zeroValue34
  t46:=Tryz.underlying202
  a46:=Tryz.isAgg202
  z46:=Tryz.sizeOf202
  v46:=Tryz.zeroValue202
  t51:=Tryz.underlying222
  a51:=Tryz.isAgg222
  z51:=Tryz.sizeOf222
  v51:=Tryz.zeroValue222
  t53:=Tryz.underlying210
  a53:=Tryz.isAgg210
  z53:=Tryz.sizeOf210
  v53:=Tryz.zeroValue210
  t131:=Tryz.underlying95
  a131:=Tryz.isAgg95
  z131:=Tryz.sizeOf95
  v131:=Tryz.zeroValue95
  t182:=Tryz.underlying227
  a182:=Tryz.isAgg227
  z182:=Tryz.sizeOf227
  v182:=Tryz.zeroValue227
  t183:=Tryz.underlying228
  a183:=Tryz.isAgg228
  z183:=Tryz.sizeOf228
  v183:=Tryz.zeroValue228
  t218:=Tryz.underlying238
  a218:=Tryz.isAgg238
  z218:=Tryz.sizeOf238
  v218:=Tryz.zeroValue238
  t222:=Tryz.underlying242
  a222:=Tryz.isAgg242
  z222:=Tryz.sizeOf242
  v222:=Tryz.zeroValue242
  t228:=Tryz.underlying248
  a228:=Tryz.isAgg248
  z228:=Tryz.sizeOf248
  v228:=Tryz.zeroValue248
  t229:=Tryz.underlying143
  a229:=Tryz.isAgg143
  z229:=Tryz.sizeOf143
  v229:=Tryz.zeroValue143
def laysCR : Ren:=⟨fun x => if x = 194 then 130 else x,fun x => if x = 31 then 34 else x,fun x => x⟩
theorem laysC : Lays.n194 Tryz.prog laysCR where
  mixed:=by kernel_rfl
  f194:=Tryz.func130.trans (congrArg some (by kernel_rfl))
  t0:=Tryz.underlying0
  a0:=Tryz.isAgg0
  z0:=Tryz.sizeOf0
  v0:=Tryz.zeroValue0
  t3:=Tryz.underlying3
  a3:=Tryz.isAgg3
  z3:=Tryz.sizeOf3
  v3:=Tryz.zeroValue3
  t4:=Tryz.underlying4
  a4:=Tryz.isAgg4
  z4:=Tryz.sizeOf4
  v4:=Tryz.zeroValue4
  t9:=Tryz.underlying9
  a9:=Tryz.isAgg9
  z9:=Tryz.sizeOf9
  v9:=Tryz.zeroValue9
  t31:=Tryz.underlying34
  a31:=Tryz.isAgg34
  z31:=Tryz.sizeOf34
  v31:=Tryz.zeroValue34
def laysTR : Ren:=⟨fun x => if x = 171 then 42 else if x = 243 then 85 else if x = 246 then 122 else if x = 283 then 154 else if x = 284 then 155 else if x = 285 then 156 else if x = 286 then 157 else if x = 129 then 176 else if x = 317 then 175 else if x = 318 then 177 else if x = 319 then 178 else if x = 320 then 179 else if x = 337 then 197 else if x = 338 then 198 else x,fun x => if x = 171 then 209 else if x = 53 then 210 else if x = 37 then 75 else if x = 173 then 213 else if x = 212 then 221 else if x = 51 then 222 else if x = 213 then 223 else if x = 46 then 202 else if x = 232 then 246 else if x = 233 then 247 else x,fun x => if x = 17 then 0 else if x = 18 then 4 else if x = 19 then 5 else x⟩
theorem laysT : Lays.n171 Tryz.prog laysTR where
  mixed:=by kernel_rfl
  f129:=Tryz.func176.trans (congrArg some (by kernel_rfl))
  f171:=Tryz.func42.trans (congrArg some (by kernel_rfl))
  f243:=Tryz.func85.trans (congrArg some (by kernel_rfl))
  f246:=Tryz.func122.trans (congrArg some (by kernel_rfl))
  f283:=Tryz.func154.trans (congrArg some (by kernel_rfl))
  f284:=Tryz.func155.trans (congrArg some (by kernel_rfl))
  f285:=Tryz.func156.trans (congrArg some (by kernel_rfl))
  f286:=Tryz.func157.trans (congrArg some (by kernel_rfl))
  f317:=Tryz.func175.trans (congrArg some (by kernel_rfl))
  f318:=Tryz.func177.trans (congrArg some (by kernel_rfl))
  f319:=Tryz.func178.trans (congrArg some (by kernel_rfl))
  f320:=Tryz.func179.trans (congrArg some (by kernel_rfl))
  f337:=Tryz.func197.trans (congrArg some (by kernel_rfl))
  f338:=Tryz.func198.trans (congrArg some (by kernel_rfl))
  t0:=Tryz.underlying0
  a0:=Tryz.isAgg0
  z0:=Tryz.sizeOf0
  v0:=Tryz.zeroValue0
  t2:=Tryz.underlying2
  a2:=Tryz.isAgg2
  z2:=Tryz.sizeOf2
  v2:=Tryz.zeroValue2
  t3:=Tryz.underlying3
  a3:=Tryz.isAgg3
  z3:=Tryz.sizeOf3
  v3:=Tryz.zeroValue3
  t4:=Tryz.underlying4
  a4:=Tryz.isAgg4
  z4:=Tryz.sizeOf4
  v4:=Tryz.zeroValue4
  t5:=Tryz.underlying5
  a5:=Tryz.isAgg5
  z5:=Tryz.sizeOf5
  v5:=Tryz.zeroValue5
  t9:=Tryz.underlying9
  a9:=Tryz.isAgg9
  z9:=Tryz.sizeOf9
  v9:=Tryz.zeroValue9
  t20:=Tryz.underlying20
  a20:=Tryz.isAgg20
  z20:=Tryz.sizeOf20
  v20:=Tryz.zeroValue20
  t37:=Tryz.underlying75
  a37:=Tryz.isAgg75
  z37:=Tryz.sizeOf75
  v37:=Tryz.zeroValue75
  t46:=Tryz.underlying202
  a46:=Tryz.isAgg202
  z46:=Tryz.sizeOf202
  v46:=Tryz.zeroValue202
  t51:=Tryz.underlying222
  a51:=Tryz.isAgg222
  z51:=Tryz.sizeOf222
  v51:=Tryz.zeroValue222
  t53:=Tryz.underlying210
  a53:=Tryz.isAgg210
  z53:=Tryz.sizeOf210
  v53:=Tryz.zeroValue210
  t171:=Tryz.underlying209
  a171:=Tryz.isAgg209
  z171:=Tryz.sizeOf209
  v171:=Tryz.zeroValue209
  t173:=Tryz.underlying213
  a173:=Tryz.isAgg213
  z173:=Tryz.sizeOf213
  v173:=Tryz.zeroValue213
  t212:=Tryz.underlying221
  a212:=Tryz.isAgg221
  z212:=Tryz.sizeOf221
  v212:=Tryz.zeroValue221
  t213:=Tryz.underlying223
  a213:=Tryz.isAgg223
  z213:=Tryz.sizeOf223
  t232:=Tryz.underlying246
  a232:=Tryz.isAgg246
  z232:=Tryz.sizeOf246
  v232:=Tryz.zeroValue246
  t233:=Tryz.underlying247
  a233:=Tryz.isAgg247
  z233:=Tryz.sizeOf247
  v233:=Tryz.zeroValue247
  g17:=by kernel_rfl
  g18:=by kernel_rfl
  g19:=by kernel_rfl
def laysSR : Ren:=⟨fun x => if x = 4 then 100 else x,fun x => if x = 22 then 34 else if x = 25 then 9 else x,fun x => x⟩
theorem laysS : Lays8.n4 Tryz.prog laysSR where
  mixed:=by kernel_rfl
  f4 := ⟨ "slices.Grow[[]string,string]", by decide, by kernel_rfl⟩
  t0:=Tryz.underlying0
  a0:=Tryz.isAgg0
  z0:=Tryz.sizeOf0
  v0:=Tryz.zeroValue0
  t3:=Tryz.underlying3
  a3:=Tryz.isAgg3
  z3:=Tryz.sizeOf3
  v3:=Tryz.zeroValue3
  t4:=Tryz.underlying4
  a4:=Tryz.isAgg4
  z4:=Tryz.sizeOf4
  v4:=Tryz.zeroValue4
  t9:=Tryz.underlying9
  a9:=Tryz.isAgg9
  z9:=Tryz.sizeOf9
  v9:=Tryz.zeroValue9
  t20:=Tryz.underlying20
  a20:=Tryz.isAgg20
  z20:=Tryz.sizeOf20
  v20:=Tryz.zeroValue20
  t22:=Tryz.underlying34
  a22:=Tryz.isAgg34
  z22:=Tryz.sizeOf34
  v22:=Tryz.zeroValue34
theorem lib_ok : ExtOk Tryz.prog rxH:=by
  intro f x h
  have h' : rxExt f = some x:=h
  unfold rxExt at h'
  split at h'
  · cases h'; exact indexByte_sound
  · cases h'
    exact grow_sound Tryz.func100 (by kernel_rfl) 1 16 laysS rfl (by kernel_rfl) (by decide) (by decide)
  · cases h'
    exact sort_sound Tryz.func129 (by kernel_rfl) laysO rfl
  · cases h'
    exact ins_sound Tryz.func110 (by kernel_rfl) laysI rfl
  · cases h'
    exact search_sound Tryz.func109 (by kernel_rfl) laysB rfl
  · cases h'
    exact itoa_sound Tryz.func42 (by kernel_rfl) laysT rfl
  · cases h'
    exact compact_sound Tryz.func130 (by kernel_rfl) laysC rfl
  · cases h'
theorem alive_ok : ExtOk Tryz.prog rxA:=by
  intro f x h
  have h' : rxExtA f = some x:=h
  unfold rxExtA at h'
  split at h'
  · cases h'
    intro args A r hr
    unfold aliveX at hr
    split at hr
    · cases hr
      obtain ⟨A',hA⟩:=alive_run
      exact closed_sound lib_ok hA A
    · cases hr
  · exact lib_ok _ x h'
end Go.Vm.Rx

/- Texts among the arguments; the frame of a call. -/
namespace Go.Vm.Rx
open Go Go.Proofs Go.Proofs.YtagmpieoalkneaaGreatDoor P
set_option maxRecDepth 100000
variable {H : Type} {enc : TypeId × Value → H} {w : World} {spare : Nat → Bool} {held : Bool}
theorem arg_str {fuel : Nat} {cs : List Value} {x : DataW H × List MemPlace} (h : DataW.trod enc Tryz.prog w 0 spare held fuel 9 cs = some x) :
    ∃ (s : Str) (v : Value),cs = [v] ∧ VC 1 v ∧ v.cells.toList = cs ∧ Rep (g0 w) w (.str s) v ∧ s.length + 1 = Rows.uptoBulk x.1:=by
  obtain ⟨s,rfl,hx⟩:=trod_string Tryz.underlying9 h
  refine ⟨s.data.toList,.string s,rfl,⟨rfl,fun z hz => ?_⟩,rfl, ?_, ?_⟩
  · have : z = .string s:=by simpa [Value.cells] using hz
    subst this; rfl
  · unfold Rep; exact ⟨s,rfl,rfl⟩
  · rw [hx]; unfold Rows.uptoBulk; rfl
theorem inv0 (w : World) : Inv (g0 w) [] w :=
  ⟨rfl,Nat.le_refl _,fun k s h => by simp at h,fun k k' b off h => by simp [g0] at h,fun k b off h => by simp [g0] at h,fun b off h => h.elim⟩
theorem call_true {f : FuncId} {fn : Func} (hf : Tryz.prog.funcs[f]? = some fn) (hok : fnOk fn = true) {ds : List D} {A' : St} (hr : Run Tryz.prog rxA f ds [] = some (.ret (.bool true),A')) {w : World} {args : Array Value} (ha : RepL (g0 w) w ds args.toList) :
    Calls Tryz.prog f args w fun e w' => e = .returned (.bool true) ∧ Go.RowKit.Below w.heap.size w w':=by
  have hs:=(Run_sound Tryz.prog rxA alive_ok f _ [] _ hr).1 (g0 w) w args.toList (inv0 w) ha
  rcases hs with ⟨_,hc⟩ | ⟨v,w',g',d,hc,_⟩
  · refine hc.mono fun e w' ⟨g',E,_,hen⟩ => ?_
    cases e with
    | returned v =>
      have hv : Rep g' w' (.bool true) v:=hen
      unfold Rep at hv
      subst hv
      exact ⟨rfl,E.below⟩
    | panicked c => exact hen.elim
    | outgrown => exact hen.elim
  · rw [fnOk_run hf hok] at hc
    cases hc
end Go.Vm.Rx

namespace Go.Vm.Rx
open Go.Proofs
set_option maxRecDepth 100000
set_option maxHeartbeats 0
def e23_8 (t6 t7 : D) : List D:=sp [(6,t6),(0,t7)] 32
variable (M : Mode) (call : CallT) {lx : List Nat → List St → Env → St → ORes} {ly : List Nat → List St → Env → St → Option (Option D × St)} (k : Nat) (a0 a1 a2 a3 a4 p : D) (A : St) (e : Env)
section
attribute [local irreducible] bn mp ifb D.bool? D.int? D.str? D.agg? D.cell? D.cellsT ofCells guardB layCells eqOf binO unD convO sliceStrO sliceSlO fieldAddrO fieldO indexAddrO indexStrO assertV extractD nilCheckD lenStrO lenSlO minMaxD loadO storeO boxO sliceParts makeO appendO litO tokO deferO bytesConvO panicD applyD Kept leaveD D.shut D.shutL guardP leavesD shV recBusy recSet closeSt endX seqCall seqI exS leaveM D.canon D.canonL Res.elim allocO sLen sApp sTake gkM gsM gwM clM jn Env.g yldB
noncomputable def ng23_8 : Nf (roundR M Tryz.prog rxHint kk call lx 23 k e (cAt Tryz.prog 23 [0,1,0,1,1,1,1,1]) [a0] A):=⟨_,by conv => lhs; reduce; simp only [go_sem,Int.reduceOfNat,Int.reduceNegSucc,UInt8.reduceOfNat]⟩
noncomputable def nd59p : Nf (defR M Tryz.prog rxHint kk call ly 59 [a0,a1,a2,a3] (some p) A):=⟨_,by conv => lhs; reduce; simp only [go_sem,Int.reduceOfNat,Int.reduceNegSucc,UInt8.reduceOfNat]⟩
noncomputable def nd59n : Nf (defR M Tryz.prog rxHint kk call ly 59 [a0,a1,a2,a3] none A):=⟨_,by conv => lhs; reduce; simp only [go_sem,Int.reduceOfNat,Int.reduceNegSucc,UInt8.reduceOfNat]⟩
noncomputable def nd112p : Nf (defR M Tryz.prog rxHint kk call ly 112 [a0,a1,a2] (some p) A):=⟨_,by conv => lhs; reduce; simp only [go_sem,Int.reduceOfNat,Int.reduceNegSucc,UInt8.reduceOfNat]⟩
noncomputable def nd112n : Nf (defR M Tryz.prog rxHint kk call ly 112 [a0,a1,a2] none A):=⟨_,by conv => lhs; reduce; simp only [go_sem,Int.reduceOfNat,Int.reduceNegSucc,UInt8.reduceOfNat]⟩
noncomputable def nd24p : Nf (defR M Tryz.prog rxHint kk call ly 24 [a0,a1,a2,a3] (some p) A):=⟨_,by conv => lhs; reduce; simp only [go_sem,Int.reduceOfNat,Int.reduceNegSucc,UInt8.reduceOfNat]⟩
noncomputable def nd24n : Nf (defR M Tryz.prog rxHint kk call ly 24 [a0,a1,a2,a3] none A):=⟨_,by conv => lhs; reduce; simp only [go_sem,Int.reduceOfNat,Int.reduceNegSucc,UInt8.reduceOfNat]⟩
noncomputable def nd79p : Nf (defR M Tryz.prog rxHint kk call ly 79 [a0] (some p) A):=⟨_,by conv => lhs; reduce; simp only [go_sem,Int.reduceOfNat,Int.reduceNegSucc,UInt8.reduceOfNat]⟩
noncomputable def nd79n : Nf (defR M Tryz.prog rxHint kk call ly 79 [a0] none A):=⟨_,by conv => lhs; reduce; simp only [go_sem,Int.reduceOfNat,Int.reduceNegSucc,UInt8.reduceOfNat]⟩
end
noncomputable def g23_8 (t6 t7 : D) : ORes:=(ng23_8 mL (Run Tryz.prog rxA) k a0 A ⟨e23_8 t6 t7,[]⟩ (lx:=fun _ _ _ _ => none)).1
theorem rg23_8 (k : Nat) (a0 t6 t7 : D) (A : St) (hk : A[k]? = some (.loop 23 (e23_8 t6 t7) (cAt Tryz.prog 23 [0,1,0,1,1,1,1,1]) .ready)) : Run Tryz.prog rxA rOff [.tup [.yld true k],.tup [a0]] A = g23_8 k a0 A t6 t7:=by
  obtain ⟨lp,h⟩:=Run_roundR Tryz.prog rxA kk (rf:=cAt Tryz.prog 23 [0,1,0,1,1,1,1,1]) (okC_rf (okf rfl) rfl) hk rfl [a0]
  exact h.trans (ng23_8 ..).2
noncomputable def d59p : Option (Option D × St):=(nd59p mL (Run Tryz.prog rxA) a0 a1 a2 a3 p A (ly:=fun _ _ _ _ => none)).1
theorem rd59p : Dcall Tryz.prog rxA (.fn (.func 59) [] [a0,a1,a2,a3]) [] (some p) A = d59p a0 a1 a2 a3 p A:=by
  obtain ⟨lp,h⟩:=Dcall_eqR Tryz.prog rxA kk (okf (f:=59) rfl) [] [a0,a1,a2,a3] [] (some p) A
  exact h.trans (nd59p ..).2
noncomputable def d59n : Option (Option D × St):=(nd59n mL (Run Tryz.prog rxA) a0 a1 a2 a3 A (ly:=fun _ _ _ _ => none)).1
theorem rd59n : Dcall Tryz.prog rxA (.fn (.func 59) [] [a0,a1,a2,a3]) [] none A = d59n a0 a1 a2 a3 A:=by
  obtain ⟨lp,h⟩:=Dcall_eqR Tryz.prog rxA kk (okf (f:=59) rfl) [] [a0,a1,a2,a3] [] none A
  exact h.trans (nd59n ..).2
noncomputable def d112p : Option (Option D × St):=(nd112p mL (Run Tryz.prog rxA) a0 a1 a2 p A (ly:=fun _ _ _ _ => none)).1
theorem rd112p : Dcall Tryz.prog rxA (.fn (.func 112) [] [a0,a1,a2]) [] (some p) A = d112p a0 a1 a2 p A:=by
  obtain ⟨lp,h⟩:=Dcall_eqR Tryz.prog rxA kk (okf (f:=112) rfl) [] [a0,a1,a2] [] (some p) A
  exact h.trans (nd112p ..).2
noncomputable def d112n : Option (Option D × St):=(nd112n mL (Run Tryz.prog rxA) a0 a1 a2 A (ly:=fun _ _ _ _ => none)).1
theorem rd112n : Dcall Tryz.prog rxA (.fn (.func 112) [] [a0,a1,a2]) [] none A = d112n a0 a1 a2 A:=by
  obtain ⟨lp,h⟩:=Dcall_eqR Tryz.prog rxA kk (okf (f:=112) rfl) [] [a0,a1,a2] [] none A
  exact h.trans (nd112n ..).2
noncomputable def d24p : Option (Option D × St):=(nd24p mL (Run Tryz.prog rxA) a0 a1 a2 a3 p A (ly:=fun _ _ _ _ => none)).1
theorem rd24p : Dcall Tryz.prog rxA (.fn (.func 24) [] [a0,a1,a2,a3]) [] (some p) A = d24p a0 a1 a2 a3 p A:=by
  obtain ⟨lp,h⟩:=Dcall_eqR Tryz.prog rxA kk (okf (f:=24) rfl) [] [a0,a1,a2,a3] [] (some p) A
  exact h.trans (nd24p ..).2
noncomputable def d24n : Option (Option D × St):=(nd24n mL (Run Tryz.prog rxA) a0 a1 a2 a3 A (ly:=fun _ _ _ _ => none)).1
theorem rd24n : Dcall Tryz.prog rxA (.fn (.func 24) [] [a0,a1,a2,a3]) [] none A = d24n a0 a1 a2 a3 A:=by
  obtain ⟨lp,h⟩:=Dcall_eqR Tryz.prog rxA kk (okf (f:=24) rfl) [] [a0,a1,a2,a3] [] none A
  exact h.trans (nd24n ..).2
noncomputable def d79p : Option (Option D × St):=(nd79p mL (Run Tryz.prog rxA) a0 p A (ly:=fun _ _ _ _ => none)).1
theorem rd79p : Dcall Tryz.prog rxA (.fn (.func 79) [] []) [a0] (some p) A = d79p a0 p A:=by
  obtain ⟨lp,h⟩:=Dcall_eqR Tryz.prog rxA kk (okf (f:=79) rfl) [] [] [a0] (some p) A
  exact h.trans (nd79p ..).2
noncomputable def d79n : Option (Option D × St):=(nd79n mL (Run Tryz.prog rxA) a0 A (ly:=fun _ _ _ _ => none)).1
theorem rd79n : Dcall Tryz.prog rxA (.fn (.func 79) [] []) [a0] none A = d79n a0 A:=by
  obtain ⟨lp,h⟩:=Dcall_eqR Tryz.prog rxA kk (okf (f:=79) rfl) [] [] [a0] none A
  exact h.trans (nd79n ..).2
end Go.Vm.Rx
