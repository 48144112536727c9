/-
  DERIVED. GIVEN WITH THE SEED: THE CARDS: each row of YtmaipfiikbcfmaaDoorRows.lean that lists a variable, with what it lists TIED to the program's text (the seventh form; the later family's looks); each row that meets fmt, with fmt's text TOLD by the authors' own Lean function (tested against real Go, not proved from fmt's source: count such statements apart). THE CARD IS WHAT COUNTS. Prove the row's statement (the work); the ties are given (YtmaipfiikbcfmaaDoorTie.lean); close each card by the builder's one call (the guide's Derived/Test/ToyasCard.lean, 'card_holds'). Laid BY PROGRAM, IN A SANDBOX (cutbox-door.mjs). By AI agents, Wed Nov 11 2026. No macro, syntax, notation, axiom, sorry.
-/
import Derived.Test.YtmaipfiikbcfmaaDoorRows
import GoSem.ClaimSeven
namespace Go.Proofs.YtmaipfiikbcfmaaDoor
namespace Rows

/-- THE TIED CARD OF 'milestonelaw09.RegexParses'. -/
def regexParsesCard : Claim7 := { stood := { row := regexParsesRow, standIns := [], harness := (true, "7b7f94beab950c710017a2a832ef2d8e8348d5ee991d1f992e431697d813fe26"), looks := true }, kinds := [], alts := [], laidByText := true, laidKinds := [.data, .pinned], laidTests := true, laidLooks := .later }
def RegexParsesCardSaid : Prop := Claim7.holds Tryd.pinned (.plain (OpenSpec.ofChange regexParsesSpec)) regexParsesCard

/-- THE TIED CARD OF 'milestonelaw09.RegexReads'. -/
def regexReadsCard : Claim7 := { stood := { row := regexReadsRow, standIns := [], harness := (true, "7b7f94beab950c710017a2a832ef2d8e8348d5ee991d1f992e431697d813fe26"), looks := true }, kinds := [], alts := [], laidByText := true, laidKinds := [.data, .pinned], laidTests := true, laidLooks := .later }
def RegexReadsCardSaid : Prop := Claim7.holds Tryd.pinned (.plain (OpenSpec.ofChange regexReadsSpec)) regexReadsCard

/-- THE TIED CARD OF 'milestonelaw09.RegexMeans'. -/
def regexMeansCard : Claim7 := { stood := { row := regexMeansRow, standIns := [], harness := (true, "7b7f94beab950c710017a2a832ef2d8e8348d5ee991d1f992e431697d813fe26"), looks := true }, kinds := [], alts := [], laidByText := true, laidKinds := [.data, .pinned], laidTests := true, laidLooks := .later }
def RegexMeansCardSaid : Prop := Claim7.holds Tryd.pinned (.plain (OpenSpec.ofChange regexMeansSpec)) regexMeansCard

/-- THE TIED CARD OF 'milestonelaw09.RegexPrints'. -/
def regexPrintsCard : Claim7 := { stood := { row := regexPrintsRow, standIns := [], harness := (true, "7b7f94beab950c710017a2a832ef2d8e8348d5ee991d1f992e431697d813fe26"), looks := true }, kinds := [], alts := [], laidByText := true, laidKinds := [.data, .pinned], laidTests := true, laidLooks := .later }
def RegexPrintsCardSaid : Prop := Claim7.holds Tryd.pinned (.plain (OpenSpec.ofChange regexPrintsSpec)) regexPrintsCard

/-- THE TIED CARD OF 'milestonelaw09.RegexBack'. -/
def regexBackCard : Claim7 := { stood := { row := regexBackRow, standIns := [], harness := (true, "7b7f94beab950c710017a2a832ef2d8e8348d5ee991d1f992e431697d813fe26"), looks := true }, kinds := [], alts := [], laidByText := true, laidKinds := [.data, .pinned], laidTests := true, laidLooks := .later }
def RegexBackCardSaid : Prop := Claim7.holds Tryd.pinned (.plain (OpenSpec.ofChange regexBackSpec)) regexBackCard

/-- THE TIED CARD OF 'milestonelaw09.RegexSame'. -/
def regexSameCard : Claim7 := { stood := { row := regexSameRow, standIns := [], harness := (true, "7b7f94beab950c710017a2a832ef2d8e8348d5ee991d1f992e431697d813fe26"), looks := true }, kinds := [], alts := [], laidByText := true, laidKinds := [.data, .pinned], laidTests := true, laidLooks := .later }
def RegexSameCardSaid : Prop := Claim7.holds Tryd.pinned (.plain (OpenSpec.ofChange regexSameSpec)) regexSameCard

/-- THE SECOND FORM's CARD OF 'milestonelaw09.RegexParses'. -/
def regexParsesUptoCard : Claim7 := { stood := { row := regexParsesUptoRow, standIns := [], harness := (true, "7b7f94beab950c710017a2a832ef2d8e8348d5ee991d1f992e431697d813fe26"), looks := true }, kinds := [], alts := [], laidByText := true, laidKinds := [.data, .pinned], laidTests := true, laidLooks := .later }
def RegexParsesUptoCardSaid : Prop := Claim7.holds Tryd.pinned (.plain (OpenSpec.upto regexParsesSpec)) regexParsesUptoCard

/-- THE SECOND FORM's CARD OF 'milestonelaw09.RegexReads'. -/
def regexReadsUptoCard : Claim7 := { stood := { row := regexReadsUptoRow, standIns := [], harness := (true, "7b7f94beab950c710017a2a832ef2d8e8348d5ee991d1f992e431697d813fe26"), looks := true }, kinds := [], alts := [], laidByText := true, laidKinds := [.data, .pinned], laidTests := true, laidLooks := .later }
def RegexReadsUptoCardSaid : Prop := Claim7.holds Tryd.pinned (.plain (OpenSpec.upto regexReadsSpec)) regexReadsUptoCard

/-- THE SECOND FORM's CARD OF 'milestonelaw09.RegexMeans'. -/
def regexMeansUptoCard : Claim7 := { stood := { row := regexMeansUptoRow, standIns := [], harness := (true, "7b7f94beab950c710017a2a832ef2d8e8348d5ee991d1f992e431697d813fe26"), looks := true }, kinds := [], alts := [], laidByText := true, laidKinds := [.data, .pinned], laidTests := true, laidLooks := .later }
def RegexMeansUptoCardSaid : Prop := Claim7.holds Tryd.pinned (.plain (OpenSpec.upto regexMeansSpec)) regexMeansUptoCard

/-- THE SECOND FORM's CARD OF 'milestonelaw09.RegexPrints'. -/
def regexPrintsUptoCard : Claim7 := { stood := { row := regexPrintsUptoRow, standIns := [], harness := (true, "7b7f94beab950c710017a2a832ef2d8e8348d5ee991d1f992e431697d813fe26"), looks := true }, kinds := [], alts := [], laidByText := true, laidKinds := [.data, .pinned], laidTests := true, laidLooks := .later }
def RegexPrintsUptoCardSaid : Prop := Claim7.holds Tryd.pinned (.plain (OpenSpec.upto regexPrintsSpec)) regexPrintsUptoCard

/-- THE SECOND FORM's CARD OF 'milestonelaw09.RegexBack'. -/
def regexBackUptoCard : Claim7 := { stood := { row := regexBackUptoRow, standIns := [], harness := (true, "7b7f94beab950c710017a2a832ef2d8e8348d5ee991d1f992e431697d813fe26"), looks := true }, kinds := [], alts := [], laidByText := true, laidKinds := [.data, .pinned], laidTests := true, laidLooks := .later }
def RegexBackUptoCardSaid : Prop := Claim7.holds Tryd.pinned (.plain (OpenSpec.upto regexBackSpec)) regexBackUptoCard

/-- THE SECOND FORM's CARD OF 'milestonelaw09.RegexSame'. -/
def regexSameUptoCard : Claim7 := { stood := { row := regexSameUptoRow, standIns := [], harness := (true, "7b7f94beab950c710017a2a832ef2d8e8348d5ee991d1f992e431697d813fe26"), looks := true }, kinds := [], alts := [], laidByText := true, laidKinds := [.data, .pinned], laidTests := true, laidLooks := .later }
def RegexSameUptoCardSaid : Prop := Claim7.holds Tryd.pinned (.plain (OpenSpec.upto regexSameSpec)) regexSameUptoCard
end Rows
end Go.Proofs.YtmaipfiikbcfmaaDoor
