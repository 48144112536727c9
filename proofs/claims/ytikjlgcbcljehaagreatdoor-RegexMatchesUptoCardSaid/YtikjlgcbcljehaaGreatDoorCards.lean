/-
  DERIVED. GIVEN WITH THE SEED: THE CARDS: each row of YtikjlgcbcljehaaGreatDoorRows.lean that lists a variable, with what it lists TIED to the program's text (the seventh form; the later family's looks); each row that meets fmt, with fmt's text TOLD by the authors' own Lean function (tested against real Go, not proved from fmt's source: count such statements apart). THE CARD IS WHAT COUNTS. Prove the row's statement (the work); the ties are given (YtikjlgcbcljehaaGreatDoorTie.lean); close each card by the builder's one call (the guide's Derived/Test/ToyasCard.lean, 'card_holds'). Laid BY PROGRAM, IN A SANDBOX (cutbox-door.mjs). By AI agents, Wed Nov 11 2026. No macro, syntax, notation, axiom, sorry.
-/
import Derived.Test.YtikjlgcbcljehaaGreatDoorRows
import GoSem.ClaimSeven
namespace Go.Proofs.YtikjlgcbcljehaaGreatDoor
namespace Rows

/-- THE TIED CARD OF 'milestonelaw09.RegexMatches'. -/
def regexMatchesCard : Claim7 := { stood := { row := regexMatchesRow, standIns := [], harness := (true, "d05a0b288cc91aa72c576314d1049aaa0bac45520d3ba348795ba348c6a5c5a7"), looks := true }, kinds := [], alts := [], laidByText := true, laidKinds := [.data, .pinned], laidTests := true, laidLooks := .later }
def RegexMatchesCardSaid : Prop := Claim7.holds Tryz.pinned (.plain (OpenSpec.ofChange regexMatchesSpec)) regexMatchesCard

/-- THE SECOND FORM's CARD OF 'milestonelaw09.RegexMatches'. -/
def regexMatchesUptoCard : Claim7 := { stood := { row := regexMatchesUptoRow, standIns := [], harness := (true, "d05a0b288cc91aa72c576314d1049aaa0bac45520d3ba348795ba348c6a5c5a7"), looks := true }, kinds := [], alts := [], laidByText := true, laidKinds := [.data, .pinned], laidTests := true, laidLooks := .later }
def RegexMatchesUptoCardSaid : Prop := Claim7.holds Tryz.pinned (.plain (OpenSpec.upto regexMatchesSpec)) regexMatchesUptoCard
end Rows
end Go.Proofs.YtikjlgcbcljehaaGreatDoor
