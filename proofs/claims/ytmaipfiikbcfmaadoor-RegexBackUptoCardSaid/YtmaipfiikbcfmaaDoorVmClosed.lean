/- A run from the empty store, of what is closed, holds at every store. -/
import Derived.Test.YtmaipfiikbcfmaaDoorVmEv
set_option linter.all false
namespace Go.Vm
open Go.RowKit
set_option linter.unusedVariables false

theorem Inv.below {g : Gh} {A : St} {w w' : World} (I : Inv g A w) (h : Below w.heap.size w w') : Ext g w g w' ∧ Inv g A w' := by
  have hh : ∀ b, b < w.heap.size → w'.heap[b]? = w.heap[b]? := h.block
  have hc : ∀ b off, b < w.heap.size → w'.cell? ⟨b, off, none⟩ = w.cell? ⟨b, off, none⟩ ∧ w'.frozen? ⟨b, off, none⟩ = w.frozen? ⟨b, off, none⟩ := fun b off hb => cell_of_heap (hh b hb) off
  have E : Ext g w g w' := by
    refine ⟨rfl, ⟨h.os, h.tape, h.output, h.size, fun b hb => hh b (Nat.lt_of_lt_of_le hb I.base)⟩, fun _ _ h => h, fun b off hs => (hc b off (I.old b off hs)).1, Nat.le_refl _, fun _ _ => BindLe.refl _⟩
  refine ⟨E, ⟨I.len, Nat.le_trans I.base h.size, fun j s hj => ?_, I.sep, I.own, fun b off hs => Nat.lt_of_lt_of_le (I.old b off hs) h.size⟩⟩
  have hlt : j < g.len := I.len ▸ (List.getElem?_eq_some_iff.1 hj).1
  exact (I.slot j s hj).keep E (fun b off ho => hc b off (I.lt hlt ho)) fun l hl => hh l (I.lt hlt (off := 0) (by rw [hl]; rfl))
theorem closed_sound {P : Program} {H : Ext0} (hx : ExtOk P H) {f : FuncId} {b : Bool} {A' : St} (h : Run P H f [] [] = some (.ret (.bool b), A')) (A : St) : Sound P f [] A (.ret (.bool b), A) := by
  intro g w vs I hr
  simp only [RepL] at hr
  subst hr
  let g0 : Gh := ⟨w.heap.size, 0, fun _ => .none, fun _ _ => False⟩
  have I0 : Inv g0 [] w := ⟨rfl, Nat.le_refl _, fun k s hk => by simp at hk, fun k _ _ _ hk => by simp [g0] at hk, fun k _ _ hk => by simp [g0] at hk, fun _ _ hs => hs.elim⟩
  rcases (Run_sound P H hx f [] [] _ h).1 g0 w [] I0 (by simp [RepL]) with ⟨h1, h2⟩ | ⟨v, w', g', d, h1, E, _, h2, h3⟩
  · left
    refine ⟨h1, h2.mono fun e w' ⟨g', E, _, hen⟩ => ?_⟩
    obtain ⟨E1, I1⟩ := I.below E.below
    cases e <;> simp only [EndOk] at hen
    rename_i v
    exact ⟨g, E1, I1, by simpa [EndOk, Rep] using hen⟩
  · right
    obtain ⟨E1, I1⟩ := I.below E.below
    cases h2
    exact ⟨v, w', g, _, h1, E1, I1, rfl, by simpa [Rep] using h3⟩
end Go.Vm
