/- RxArg, RxArg2 in one text. -/
import Derived.Test.YtikjlgcbcljehaaGreatDoorVmArg3
import Derived.Test.YtikjlgcbcljehaaGreatDoorRxS31
import Derived.Test.YtikjlgcbcljehaaGreatDoorRows
import Derived.Test.YtikjlgcbcljehaaGreatDoorRxX
set_option linter.all false
/- What texts, words and path expressions among the arguments stand for. -/
namespace Go.Vm.Rx
open Go Go.Proofs Go.Proofs.YtikjlgcbcljehaaGreatDoor P
set_option linter.unusedVariables false
set_option maxRecDepth 100000
variable {H : Type} {enc : TypeId × Value → H} {w : World} {spare : Nat → Bool} {held : Bool}
mutual
/-- a path expression's weight: its nodes and the bytes of its names -/
def wt : Rx → Nat | .mk _ nm ks => nm.length + 1 + wts ks
def wts : List Rx → Nat | [] => 0 | k :: ks => wt k + wts ks
end
mutual
theorem wt_ok : ∀ r : Rx, wt r ≤ 100000000 → r.Ok
  | .mk op nm ks, h => by
    unfold wt at h
    have := wts_len ks
    exact ⟨by omega, by omega, wts_ok ks (by omega)⟩
theorem wts_ok : ∀ ks : List Rx, wts ks ≤ 100000000 → Rx.Oks ks
  | [], _ => trivial
  | k :: ks, h => by
    unfold wts at h
    exact ⟨wt_ok k (by omega), wts_ok ks (by omega)⟩
theorem wts_len : ∀ ks : List Rx, ks.length ≤ wts ks
  | [] => by simp
  | k :: ks => by
    have := wts_len ks
    unfold wts
    have h1 : 1 ≤ wt k := by cases k; unfold wt; omega
    simp only [List.length_cons]; omega
end
theorem bulk_len : ∀ (els : List (DataW H)), els.length ≤ Rows.uptoBulkAll els
  | [] => Nat.zero_le _
  | d :: r => by
    have h1 : 1 ≤ Rows.uptoBulk d := by
      cases d with
      | lit l => cases l <;> unfold Rows.uptoBulk <;> omega
      | _ => unfold Rows.uptoBulk; omega
    have := bulk_len r
    unfold Rows.uptoBulkAll
    simp only [List.length_cons]
    omega
theorem arg_str {fuel : Nat} {cs : List Value} {x : DataW H × List MemPlace} (h : DataW.trod enc Tryz.prog w 0 spare held fuel 9 cs = some x) :
    ∃ (s : Str) (v : Value), cs = [v] ∧ VC 1 v ∧ v.cells.toList = cs ∧ Rep (g0 w) w (.str s) v ∧ s.length + 1 = Rows.uptoBulk x.1 := by
  obtain ⟨s, rfl, hx⟩ := trod_string Tryz.underlying9 h
  refine ⟨s.data.toList, .string s, rfl, ⟨rfl, fun z hz => ?_⟩, rfl, ?_, ?_⟩
  · have : z = .string s := by simpa [Value.cells] using hz
    subst this; rfl
  · unfold Rep; exact ⟨s, rfl, rfl⟩
  · rw [hx]; unfold Rows.uptoBulk; rfl
theorem three_cells {cs : List Value} (h : cs.length = 3) : ∃ a b c, cs = [a, b, c] := by
  match cs, h with
  | [a, b, c], _ => exact ⟨a, b, c, rfl⟩
theorem canon_sl' (o : Own) (n : Nat) (ds : List D) : (D.sl o n ds).canon = encL n (D.canonL ds) := by cases ds <;> rfl
theorem rxs_of {ds : List D} (els : List (DataW H)) : ds.length = els.length → (∀ (i : Nat) d, ds[i]? = some d → ∃ y, els[i]? = some y ∧ ∃ r : Rx, d.canon = encRx r ∧ wt r ≤ Rows.uptoBulk y) →
    ∃ l : List Rx, D.canonL ds = l.map encRx ∧ wts l ≤ Rows.uptoBulkAll els := by
  induction ds generalizing els with
  | nil => exact fun _ _ => ⟨[], rfl, by unfold wts; omega⟩
  | cons d ds ih =>
    intro hl h
    cases els with
    | nil => simp at hl
    | cons e els =>
      obtain ⟨y, hy, r, hr, hb⟩ := h 0 d rfl
      simp only [List.getElem?_cons_zero, Option.some.injEq] at hy
      subst hy
      obtain ⟨l, hl1, hl2⟩ := ih els (by simpa using hl) fun i d hi => by
        obtain ⟨y, hy, q⟩ := h (i + 1) d (by simpa using hi)
        exact ⟨y, by simpa using hy, q⟩
      refine ⟨r :: l, by rw [canonL_cons, hr, hl1]; rfl, ?_⟩
      unfold Rows.uptoBulkAll wts
      omega
theorem one_cell {d : D} {v : Value} (h : Rep (g0 w) w d v) (hd : (∃ o n ds, d = .sl o n ds) ∨ ∃ s, d = .str s) : v.oneCell' = true ∧ v.cells = #[v] := by
  rcases hd with ⟨o, n, ds, rfl⟩ | ⟨s, rfl⟩
  · unfold Rep at h
    obtain ⟨a', cap, rfl, _⟩ := h
    exact ⟨rfl, rfl⟩
  · unfold Rep at h
    obtain ⟨x, rfl, _⟩ := h
    exact ⟨rfl, rfl⟩
theorem arg_rx : ∀ {fuel : Nat} {cs : List Value} {x : DataW H × List MemPlace}, DataW.trod enc Tryz.prog w 0 spare held fuel 25 cs = some x →
    ∃ (d : D) (v : Value), v.cells.toList = cs ∧ VC 3 v ∧ Rep (g0 w) w d v ∧ (∃ r : Rx, d.canon = encRx r ∧ wt r ≤ Rows.uptoBulk x.1) ∧ ∃ c, v = .agg c := by
  intro fuel
  induction fuel using Nat.strongRecOn with
  | _ fuel ih =>
  intro cs x h
  cases fuel with
  | zero => cases h
  | succ fuel =>
    obtain ⟨hl, xs, hxl, hxa, hf⟩ := trod_struct_f Tryz.underlying25 h
    have c25 : Tryz.prog.cellsOf 25 = 3 := by kernel_rfl
    rw [c25] at hl
    obtain ⟨a, b, c, rfl⟩ := three_cells hl
    obtain ⟨y0, g0', t0⟩ := hf 0 _ rfl
    obtain ⟨y1, g1', t1⟩ := hf 1 _ rfl
    obtain ⟨y2, g2', t2⟩ := hf 2 _ rfl
    have c22 : Tryz.prog.cellsOf 22 = 1 := by kernel_rfl
    have c9 : Tryz.prog.cellsOf 9 = 1 := by kernel_rfl
    have c23 : Tryz.prog.cellsOf 23 = 1 := by kernel_rfl
    simp only [c22, c9, c23] at t0 t1 t2
    obtain ⟨n, e0, _, _⟩ := trod_int Tryz.underlying22 t0
    obtain ⟨s, v1, e1, _, _, r1, b1⟩ := arg_str t1
    cases fuel with
    | zero => cases t2
    | succ fuel =>
      obtain ⟨ds, v2, e2, r2, _, q2⟩ := slice_rep_f Tryz.underlying23 (n := 3) (by kernel_rfl) (by omega) t2 (fun d y => ∃ r : Rx, d.canon = encRx r ∧ wt r ≤ Rows.uptoBulk y) (by
        intro cells y hl hy
        obtain ⟨d, v, q1, q2, q3, q4, _⟩ := ih fuel (by omega) hy
        exact ⟨d, v, q1, q2, q3, q4⟩)
      simp only [List.drop_zero, List.take_succ_cons, List.take_zero, List.drop_succ_cons, List.cons.injEq, and_true] at e0 e1 e2
      subst e0 e1 e2
      obtain ⟨l, hl1, hl2⟩ : ∃ l : List Rx, D.canonL ds = l.map encRx ∧ wts l + 1 ≤ Rows.uptoBulk y2.1 := by
        rcases q2 with ⟨hx2, rfl⟩ | ⟨els, rest, hx2, hle, hq⟩
        · exact ⟨[], rfl, by rw [hx2]; unfold Rows.uptoBulk wts; omega⟩
        · obtain ⟨l, k1, k2⟩ := rxs_of els hle.symm hq
          exact ⟨l, k1, by rw [hx2]; unfold Rows.uptoBulk; omega⟩
      refine ⟨.agg [.int .i64 n, .str s, .sl .sh 3 ds], .agg #[.int .i64 n, b, c], rfl, ⟨rfl, fun z hz => ?_⟩, ?_, ⟨.mk n s l, ?_, ?_⟩, _, rfl⟩
      · have : z = .int .i64 n ∨ z = b ∨ z = c := by simpa [Value.cells] using hz
        rcases this with rfl | rfl | rfl
        · rfl
        · exact (one_cell r1 (.inr ⟨_, rfl⟩)).1
        · exact (one_cell r2 (.inl ⟨_, _, _, rfl⟩)).1
      · unfold Rep
        refine ⟨_, rfl, ?_⟩
        unfold RepL
        refine ⟨_, _, rfl, by unfold Rep; rfl, ?_⟩
        unfold RepL
        refine ⟨_, _, rfl, r1, ?_⟩
        unfold RepL
        refine ⟨_, _, rfl, r2, ?_⟩
        unfold RepL
        rfl
      · simp only [canon_agg, canonL_cons, canonL_nil, qam, canon_str, canon_sl', hl1, encRx_mk]
      · rw [hxa]
        match xs, hxl, g0', g1', g2' with
        | [z0, z1, z2], _, p0, p1, p2 =>
          simp only [List.getElem?_cons_succ, List.getElem?_cons_zero, Option.some.injEq] at p0 p1 p2
          subst p0 p1 p2
          simp only [List.map_cons, List.map_nil, Rows.uptoBulk, Rows.uptoBulkAll]
          unfold wt
          omega
end Go.Vm.Rx

/- What words among the arguments stand for; the frame of a call. -/
namespace Go.Vm.Rx
open Go Go.Proofs Go.Proofs.YtikjlgcbcljehaaGreatDoor P
set_option linter.unusedVariables false
set_option maxRecDepth 100000
variable {H : Type} {enc : TypeId × Value → H} {w : World} {spare : Nat → Bool} {held : Bool}
theorem inv0 (w : World) : Inv (g0 w) [] w :=
  ⟨rfl, Nat.le_refl _, fun k s h => by simp at h, fun k k' b off h => by simp [g0] at h, fun k b off h => by simp [g0] at h, fun b off h => h.elim⟩
/-- a law that returns true over data is a law -/
theorem call_true {f : FuncId} {fn : Func} (hf : Tryz.prog.funcs[f]? = some fn) (hok : fnOk fn = true) {ds : List D} {A' : St} (hr : Run Tryz.prog rxA f ds [] = some (.ret (.bool true), A')) {w : World} {args : Array Value} (ha : RepL (g0 w) w ds args.toList) :
    Calls Tryz.prog f args w fun e w' => e = .returned (.bool true) ∧ Go.RowKit.Below w.heap.size w w' := by
  have hs := (Run_sound Tryz.prog rxA alive_ok f _ [] _ hr).1 (g0 w) w args.toList (inv0 w) ha
  rcases hs with ⟨_, hc⟩ | ⟨v, w', g', d, hc, _⟩
  · refine hc.mono fun e w' ⟨g', E, _, hen⟩ => ?_
    cases e with
    | returned v =>
      have hv : Rep g' w' (.bool true) v := hen
      unfold Rep at hv
      subst hv
      exact ⟨rfl, E.below⟩
    | panicked c => exact hen.elim
    | outgrown => exact hen.elim
  · rw [fnOk_run hf hok] at hc
    cases hc
end Go.Vm.Rx
