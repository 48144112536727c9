/-
  DERIVED. GIVEN WITH THE SEED: THE CARDS: each row of YtagmpieoalkneaaGreatDoorRows.lean that lists a variable, with what it lists TIED to the program's text (the seventh form; the later family's looks); each row that meets fmt, with fmt's text TOLD by the authors' own Lean function (tested against real Go, not proved from fmt's source: count such statements apart). THE CARD IS WHAT COUNTS. Prove the row's statement (the work); the ties are given (YtagmpieoalkneaaGreatDoorTie.lean); close each card by the builder's one call (the guide's Derived/Test/ToyasCard.lean, 'card_holds'). Laid BY PROGRAM, IN A SANDBOX (cutbox-door.mjs). By AI agents, Wed Nov 11 2026. No macro, syntax, notation, axiom, sorry.
-/
import Derived.Test.YtagmpieoalkneaaGreatDoorRows
import GoSem.ClaimSeven
namespace Go.Proofs.YtagmpieoalkneaaGreatDoor
namespace Rows

/-- THE TIED CARD OF 'milestonelaw12.InvarParses'. -/
def invarParsesCard : Claim7 := { stood := { row := invarParsesRow, standIns := [], harness := (true, "70c1fd407eeeb8abe0219438ab03e412f7ab9a888c35b12f19df0ee81b3b9faf"), looks := true }, kinds := [], alts := [], laidByText := true, laidKinds := [.data, .data, .data, .data, .pinned], laidTests := true, laidLooks := .later }
def InvarParsesCardSaid : Prop := Claim7.holds Tryz.pinned (.plain (OpenSpec.ofChange invarParsesSpec)) invarParsesCard

/-- THE TIED CARD OF 'milestonelaw12.InvarBack'. -/
def invarBackCard : Claim7 := { stood := { row := invarBackRow, standIns := [], harness := (true, "70c1fd407eeeb8abe0219438ab03e412f7ab9a888c35b12f19df0ee81b3b9faf"), looks := true }, kinds := [], alts := [], laidByText := true, laidKinds := [.data, .data, .data, .data, .pinned], laidTests := true, laidLooks := .later }
def InvarBackCardSaid : Prop := Claim7.holds Tryz.pinned (.plain (OpenSpec.ofChange invarBackSpec)) invarBackCard

/-- THE TIED CARD OF 'milestonelaw12.InvarAgain'. -/
def invarAgainCard : Claim7 := { stood := { row := invarAgainRow, standIns := [], harness := (true, "70c1fd407eeeb8abe0219438ab03e412f7ab9a888c35b12f19df0ee81b3b9faf"), looks := true }, kinds := [], alts := [], laidByText := true, laidKinds := [.data, .data, .data, .data, .pinned], laidTests := true, laidLooks := .later }
def InvarAgainCardSaid : Prop := Claim7.holds Tryz.pinned (.plain (OpenSpec.ofChange invarAgainSpec)) invarAgainCard

/-- THE TIED CARD OF 'milestonelaw12.InvarPrints'. -/
def invarPrintsCard : Claim7 := { stood := { row := invarPrintsRow, standIns := [], harness := (true, "70c1fd407eeeb8abe0219438ab03e412f7ab9a888c35b12f19df0ee81b3b9faf"), looks := true }, kinds := [], alts := [], laidByText := true, laidKinds := [.data, .data, .data, .data, .pinned], laidTests := true, laidLooks := .later }
def InvarPrintsCardSaid : Prop := Claim7.holds Tryz.pinned (.plain (OpenSpec.ofChange invarPrintsSpec)) invarPrintsCard

/-- THE TIED CARD OF 'milestonelaw12.InvarForms'. -/
def invarFormsCard : Claim7 := { stood := { row := invarFormsRow, standIns := [], harness := (true, "70c1fd407eeeb8abe0219438ab03e412f7ab9a888c35b12f19df0ee81b3b9faf"), looks := true }, kinds := [], alts := [], laidByText := true, laidKinds := [.data, .data, .data, .data, .pinned], laidTests := true, laidLooks := .later }
def InvarFormsCardSaid : Prop := Claim7.holds Tryz.pinned (.plain (OpenSpec.ofChange invarFormsSpec)) invarFormsCard

/-- THE SECOND FORM's CARD OF 'milestonelaw12.InvarParses'. -/
def invarParsesUptoCard : Claim7 := { stood := { row := invarParsesUptoRow, standIns := [], harness := (true, "70c1fd407eeeb8abe0219438ab03e412f7ab9a888c35b12f19df0ee81b3b9faf"), looks := true }, kinds := [], alts := [], laidByText := true, laidKinds := [.data, .data, .data, .data, .pinned], laidTests := true, laidLooks := .later }
def InvarParsesUptoCardSaid : Prop := Claim7.holds Tryz.pinned (.plain (OpenSpec.upto invarParsesSpec)) invarParsesUptoCard

/-- THE SECOND FORM's CARD OF 'milestonelaw12.InvarBack'. -/
def invarBackUptoCard : Claim7 := { stood := { row := invarBackUptoRow, standIns := [], harness := (true, "70c1fd407eeeb8abe0219438ab03e412f7ab9a888c35b12f19df0ee81b3b9faf"), looks := true }, kinds := [], alts := [], laidByText := true, laidKinds := [.data, .data, .data, .data, .pinned], laidTests := true, laidLooks := .later }
def InvarBackUptoCardSaid : Prop := Claim7.holds Tryz.pinned (.plain (OpenSpec.upto invarBackSpec)) invarBackUptoCard

/-- THE SECOND FORM's CARD OF 'milestonelaw12.InvarAgain'. -/
def invarAgainUptoCard : Claim7 := { stood := { row := invarAgainUptoRow, standIns := [], harness := (true, "70c1fd407eeeb8abe0219438ab03e412f7ab9a888c35b12f19df0ee81b3b9faf"), looks := true }, kinds := [], alts := [], laidByText := true, laidKinds := [.data, .data, .data, .data, .pinned], laidTests := true, laidLooks := .later }
def InvarAgainUptoCardSaid : Prop := Claim7.holds Tryz.pinned (.plain (OpenSpec.upto invarAgainSpec)) invarAgainUptoCard

/-- THE SECOND FORM's CARD OF 'milestonelaw12.InvarPrints'. -/
def invarPrintsUptoCard : Claim7 := { stood := { row := invarPrintsUptoRow, standIns := [], harness := (true, "70c1fd407eeeb8abe0219438ab03e412f7ab9a888c35b12f19df0ee81b3b9faf"), looks := true }, kinds := [], alts := [], laidByText := true, laidKinds := [.data, .data, .data, .data, .pinned], laidTests := true, laidLooks := .later }
def InvarPrintsUptoCardSaid : Prop := Claim7.holds Tryz.pinned (.plain (OpenSpec.upto invarPrintsSpec)) invarPrintsUptoCard

/-- THE SECOND FORM's CARD OF 'milestonelaw12.InvarForms'. -/
def invarFormsUptoCard : Claim7 := { stood := { row := invarFormsUptoRow, standIns := [], harness := (true, "70c1fd407eeeb8abe0219438ab03e412f7ab9a888c35b12f19df0ee81b3b9faf"), looks := true }, kinds := [], alts := [], laidByText := true, laidKinds := [.data, .data, .data, .data, .pinned], laidTests := true, laidLooks := .later }
def InvarFormsUptoCardSaid : Prop := Claim7.holds Tryz.pinned (.plain (OpenSpec.upto invarFormsSpec)) invarFormsUptoCard
end Rows
end Go.Proofs.YtagmpieoalkneaaGreatDoor
