/- RxArg, RxArg2 in one text. -/
import Derived.Test.YtmaipfiikbcfmaaDoorVmArg3
import Derived.Test.YtmaipfiikbcfmaaDoorRxS34
import Derived.Test.YtmaipfiikbcfmaaDoorRows
import Derived.Test.YtmaipfiikbcfmaaDoorRxX
import Derived.Test.YtmaipfiikbcfmaaDoorVmArg
set_option linter.all false
/- What texts, words and path expressions among the arguments stand for. -/
namespace Go.Vm.Rx
open Go Go.Proofs Go.Proofs.YtmaipfiikbcfmaaDoor P
set_option linter.unusedVariables false
set_option maxRecDepth 100000
variable {H : Type} {enc : TypeId × Value → H} {w : World} {spare : Nat → Bool} {held : Bool}
mutual
/-- a path expression's weight: its nodes and the bytes of its names -/
def wt : Rx → Nat | .mk _ nm ks => nm.length + 1 + wts ks
def wts : List Rx → Nat | [] => 0 | k :: ks => wt k + wts ks
end
mutual
theorem wt_ok : ∀ r : Rx, wt r ≤ 100000000 → r.Ok
  | .mk op nm ks, h => by
    unfold wt at h
    have := wts_len ks
    exact ⟨by omega, by omega, wts_ok ks (by omega)⟩
theorem wts_ok : ∀ ks : List Rx, wts ks ≤ 100000000 → Rx.Oks ks
  | [], _ => trivial
  | k :: ks, h => by
    unfold wts at h
    exact ⟨wt_ok k (by omega), wts_ok ks (by omega)⟩
theorem wts_len : ∀ ks : List Rx, ks.length ≤ wts ks
  | [] => by simp
  | k :: ks => by
    have := wts_len ks
    unfold wts
    have h1 : 1 ≤ wt k := by cases k; unfold wt; omega
    simp only [List.length_cons]; omega
end
theorem arg_str {fuel : Nat} {cs : List Value} {x : DataW H × List MemPlace} (h : DataW.trod enc Tryd.prog w 0 spare held fuel 9 cs = some x) :
    ∃ (s : Str) (v : Value), cs = [v] ∧ VC 1 v ∧ v.cells.toList = cs ∧ Rep (g0 w) w (.str s) v ∧ s.length + 1 = Rows.uptoBulk x.1 := by
  obtain ⟨s, rfl, hx⟩ := trod_string Tryd.underlying9 h
  refine ⟨s.data.toList, .string s, rfl, ⟨rfl, fun z hz => ?_⟩, rfl, ?_, ?_⟩
  · have : z = .string s := by simpa [Value.cells] using hz
    subst this; rfl
  · unfold Rep; exact ⟨s, rfl, rfl⟩
  · rw [hx]; unfold Rows.uptoBulk; rfl
end Go.Vm.Rx

/- What words among the arguments stand for; the frame of a call. -/
namespace Go.Vm.Rx
open Go Go.Proofs Go.Proofs.YtmaipfiikbcfmaaDoor P
set_option linter.unusedVariables false
set_option maxRecDepth 100000
variable {H : Type} {enc : TypeId × Value → H} {w : World} {spare : Nat → Bool} {held : Bool}
theorem inv0 (w : World) : Inv (g0 w) [] w :=
  ⟨rfl, Nat.le_refl _, fun k s h => by simp at h, fun k k' b off h => by simp [g0] at h, fun k b off h => by simp [g0] at h, fun b off h => h.elim⟩
/-- a law that returns true over data is a law -/
theorem call_true {f : FuncId} {fn : Func} (hf : Tryd.prog.funcs[f]? = some fn) (hok : fnOk fn = true) {ds : List D} {A' : St} (hr : Run Tryd.prog rxA f ds [] = some (.ret (.bool true), A')) {w : World} {args : Array Value} (ha : RepL (g0 w) w ds args.toList) :
    Calls Tryd.prog f args w fun e w' => e = .returned (.bool true) ∧ Go.RowKit.Below w.heap.size w w' := by
  have hs := (Run_sound Tryd.prog rxA alive_ok f _ [] _ hr).1 (g0 w) w args.toList (inv0 w) ha
  rcases hs with ⟨_, hc⟩ | ⟨v, w', g', d, hc, _⟩
  · refine hc.mono fun e w' ⟨g', E, _, hen⟩ => ?_
    cases e with
    | returned v =>
      have hv : Rep g' w' (.bool true) v := hen
      unfold Rep at hv
      subst hv
      exact ⟨rfl, E.below⟩
    | panicked c => exact hen.elim
    | outgrown => exact hen.elim
  · rw [fnOk_run hf hok] at hc
    cases hc
end Go.Vm.Rx
