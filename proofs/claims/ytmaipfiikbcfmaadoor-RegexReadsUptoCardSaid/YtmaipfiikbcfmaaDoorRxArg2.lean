/- RxArg, RxArg2 in one text. -/
import Derived.Test.YtmaipfiikbcfmaaDoorVmArg3
import Derived.Test.YtmaipfiikbcfmaaDoorRxS34
import Derived.Test.YtmaipfiikbcfmaaDoorRows
import Derived.Test.YtmaipfiikbcfmaaDoorRxX
import Derived.Test.YtmaipfiikbcfmaaDoorVmArg
set_option linter.all false
/- What texts, words and path expressions among the arguments stand for. -/
namespace Go.Vm.Rx
open Go Go.Proofs Go.Proofs.YtmaipfiikbcfmaaDoor P
set_option linter.unusedVariables false
set_option maxRecDepth 100000
variable {H : Type} {enc : TypeId × Value → H} {w : World} {spare : Nat → Bool} {held : Bool}
mutual
/-- a path expression's weight: its nodes and the bytes of its names -/
def wt : Rx → Nat | .mk _ nm ks => nm.length + 1 + wts ks
def wts : List Rx → Nat | [] => 0 | k :: ks => wt k + wts ks
end
mutual
theorem wt_ok : ∀ r : Rx, wt r ≤ 100000000 → r.Ok
  | .mk op nm ks, h => by
    unfold wt at h
    have := wts_len ks
    exact ⟨by omega, by omega, wts_ok ks (by omega)⟩
theorem wts_ok : ∀ ks : List Rx, wts ks ≤ 100000000 → Rx.Oks ks
  | [], _ => trivial
  | k :: ks, h => by
    unfold wts at h
    exact ⟨wt_ok k (by omega), wts_ok ks (by omega)⟩
theorem wts_len : ∀ ks : List Rx, ks.length ≤ wts ks
  | [] => by simp
  | k :: ks => by
    have := wts_len ks
    unfold wts
    have h1 : 1 ≤ wt k := by cases k; unfold wt; omega
    simp only [List.length_cons]; omega
end
theorem bulk_len : ∀ (els : List (DataW H)), els.length ≤ Rows.uptoBulkAll els
  | [] => Nat.zero_le _
  | d :: r => by
    have h1 : 1 ≤ Rows.uptoBulk d := by
      cases d with
      | lit l => cases l <;> unfold Rows.uptoBulk <;> omega
      | _ => unfold Rows.uptoBulk; omega
    have := bulk_len r
    unfold Rows.uptoBulkAll
    simp only [List.length_cons]
    omega
theorem arg_str {fuel : Nat} {cs : List Value} {x : DataW H × List MemPlace} (h : DataW.trod enc Tryd.prog w 0 spare held fuel 9 cs = some x) :
    ∃ (s : Str) (v : Value), cs = [v] ∧ VC 1 v ∧ v.cells.toList = cs ∧ Rep (g0 w) w (.str s) v ∧ s.length + 1 = Rows.uptoBulk x.1 := by
  obtain ⟨s, rfl, hx⟩ := trod_string Tryd.underlying9 h
  refine ⟨s.data.toList, .string s, rfl, ⟨rfl, fun z hz => ?_⟩, rfl, ?_, ?_⟩
  · have : z = .string s := by simpa [Value.cells] using hz
    subst this; rfl
  · unfold Rep; exact ⟨s, rfl, rfl⟩
  · rw [hx]; unfold Rows.uptoBulk; rfl
theorem three_cells {cs : List Value} (h : cs.length = 3) : ∃ a b c, cs = [a, b, c] := by
  match cs, h with
  | [a, b, c], _ => exact ⟨a, b, c, rfl⟩
theorem one_cell {d : D} {v : Value} (h : Rep (g0 w) w d v) (hd : (∃ o n ds, d = .sl o n ds) ∨ ∃ s, d = .str s) : v.oneCell' = true ∧ v.cells = #[v] := by
  rcases hd with ⟨o, n, ds, rfl⟩ | ⟨s, rfl⟩
  · unfold Rep at h
    obtain ⟨a', cap, rfl, _⟩ := h
    exact ⟨rfl, rfl⟩
  · unfold Rep at h
    obtain ⟨x, rfl, _⟩ := h
    exact ⟨rfl, rfl⟩
end Go.Vm.Rx

/- What words among the arguments stand for; the frame of a call. -/
namespace Go.Vm.Rx
open Go Go.Proofs Go.Proofs.YtmaipfiikbcfmaaDoor P
set_option linter.unusedVariables false
set_option maxRecDepth 100000
variable {H : Type} {enc : TypeId × Value → H} {w : World} {spare : Nat → Bool} {held : Bool}
theorem words_of {ds : List D} (els : List (DataW H)) : ds.length = els.length → (∀ (i : Nat) d, ds[i]? = some d → ∃ y, els[i]? = some y ∧ ∃ r : Word, d = encW r ∧ r.t.length ≤ Rows.uptoBulk y) →
    ∃ l : List Word, ds = l.map encW ∧ l.length ≤ Rows.uptoBulkAll els ∧ ∀ r, r ∈ l → r.t.length ≤ Rows.uptoBulkAll els := by
  induction ds generalizing els with
  | nil => exact fun _ _ => ⟨[], rfl, by simp, fun r hr => by cases hr⟩
  | cons d ds ih =>
    intro hl h
    have hbl := bulk_len els
    cases els with
    | nil => simp at hl
    | cons e els =>
      obtain ⟨y, hy, r, hr, hb⟩ := h 0 d rfl
      simp only [List.getElem?_cons_zero, Option.some.injEq] at hy
      subst hy
      obtain ⟨l, hl1, hl2, hl3⟩ := ih els (by simpa using hl) fun i d hi => by
        obtain ⟨y, hy, q⟩ := h (i + 1) d (by simpa using hi)
        exact ⟨y, by simpa using hy, q⟩
      have hl4 : l.length = ds.length := by rw [hl1]; simp
      refine ⟨r :: l, by rw [hr, hl1]; rfl, ?_, fun q hq => ?_⟩
      · simp only [List.length_cons] at hl hbl ⊢; omega
      · unfold Rows.uptoBulkAll
        rcases List.mem_cons.1 hq with rfl | hq
        · omega
        · have := hl3 q hq; omega
theorem arg_words {fuel : Nat} {cs : List Value} {x : DataW H × List MemPlace} (h : DataW.trod enc Tryd.prog w 0 spare held fuel 34 cs = some x) :
    ∃ (l : List Word) (v : Value), cs = [v] ∧ Rep (g0 w) w (.sl .sh 3 (l.map encW)) v ∧ l.length ≤ Rows.uptoBulk x.1 ∧ ∀ r, r ∈ l → r.t.length ≤ Rows.uptoBulk x.1 := by
  obtain ⟨ds, v, h1, h2, h3, h4⟩ := slice_rep Tryd.underlying34 (n := 3) (by kernel_rfl) (by omega) h (fun d y => ∃ r : Word, d = encW r ∧ r.t.length ≤ Rows.uptoBulk y) (by
    intro fu cells y hl hy
    obtain ⟨a, b, c, rfl⟩ := three_cells hl
    obtain ⟨_, fu', xs, hxl, hxa, hf⟩ := trod_struct Tryd.underlying60 hy
    obtain ⟨y0, g0', t0⟩ := hf 0 _ rfl
    obtain ⟨y1, g1', t1⟩ := hf 1 _ rfl
    obtain ⟨y2, g2', t2⟩ := hf 2 _ rfl
    have c9 : Tryd.prog.cellsOf 9 = 1 := by kernel_rfl
    have c3 : Tryd.prog.cellsOf 3 = 1 := by kernel_rfl
    simp only [c9, c3] at t0 t1 t2
    obtain ⟨s, v1, e0, _, _, r0, b0⟩ := arg_str t0
    obtain ⟨n, e1, _, _⟩ := trod_int Tryd.underlying3 t1
    obtain ⟨m, e2, _, _⟩ := trod_int Tryd.underlying3 t2
    simp only [List.drop_zero, List.take_succ_cons, List.take_zero, List.drop_succ_cons, List.cons.injEq, and_true] at e0 e1 e2
    subst e0 e1 e2
    refine ⟨encW ⟨s, n, m⟩, .agg #[a, .int .i64 n, .int .i64 m], rfl, ⟨rfl, fun z hz => ?_⟩, ?_, ⟨s, n, m⟩, rfl, ?_⟩
    · have : z = a ∨ z = .int .i64 n ∨ z = .int .i64 m := by simpa [Value.cells] using hz
      rcases this with rfl | rfl | rfl
      · exact (one_cell r0 (.inr ⟨_, rfl⟩)).1
      · rfl
      · rfl
    · unfold encW cellsW Rep
      refine ⟨_, rfl, ?_⟩
      unfold RepL
      refine ⟨_, _, rfl, r0, ?_⟩
      unfold RepL
      refine ⟨_, _, rfl, by unfold Rep; rfl, ?_⟩
      unfold RepL
      refine ⟨_, _, rfl, by unfold Rep; rfl, ?_⟩
      unfold RepL
      rfl
    · rw [hxa]
      match xs, hxl, g0' with
      | [z0, z1, z2], _, p0 =>
        simp only [List.getElem?_cons_zero, Option.some.injEq] at p0
        subst p0
        simp only [List.map_cons, List.map_nil, Rows.uptoBulk, Rows.uptoBulkAll]
        omega)
  rcases h4 with ⟨hx, rfl⟩ | ⟨els, rest, hx, hl, hq⟩
  · exact ⟨[], v, h1, h2, by simp, fun r hr => by cases hr⟩
  · obtain ⟨l, rfl, k1, k2⟩ := words_of els hl.symm hq
    refine ⟨l, v, h1, h2, ?_, fun r hr => ?_⟩
    · rw [hx]; unfold Rows.uptoBulk; omega
    · rw [hx]; unfold Rows.uptoBulk; have := k2 r hr; omega
theorem inv0 (w : World) : Inv (g0 w) [] w :=
  ⟨rfl, Nat.le_refl _, fun k s h => by simp at h, fun k k' b off h => by simp [g0] at h, fun k b off h => by simp [g0] at h, fun b off h => h.elim⟩
/-- a law that returns true over data is a law -/
theorem call_true {f : FuncId} {fn : Func} (hf : Tryd.prog.funcs[f]? = some fn) (hok : fnOk fn = true) {ds : List D} {A' : St} (hr : Run Tryd.prog rxA f ds [] = some (.ret (.bool true), A')) {w : World} {args : Array Value} (ha : RepL (g0 w) w ds args.toList) :
    Calls Tryd.prog f args w fun e w' => e = .returned (.bool true) ∧ Go.RowKit.Below w.heap.size w w' := by
  have hs := (Run_sound Tryd.prog rxA alive_ok f _ [] _ hr).1 (g0 w) w args.toList (inv0 w) ha
  rcases hs with ⟨_, hc⟩ | ⟨v, w', g', d, hc, _⟩
  · refine hc.mono fun e w' ⟨g', E, _, hen⟩ => ?_
    cases e with
    | returned v =>
      have hv : Rep g' w' (.bool true) v := hen
      unfold Rep at hv
      subst hv
      exact ⟨rfl, E.below⟩
    | panicked c => exact hen.elim
    | outgrown => exact hen.elim
  · rw [fnOk_run hf hok] at hc
    cases hc
end Go.Vm.Rx
