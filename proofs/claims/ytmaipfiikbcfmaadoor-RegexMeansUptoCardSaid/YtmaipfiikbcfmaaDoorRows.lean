/-
  NARROWER THAN 'FOR EVERY INPUT', by the rows' own cells (each row's printed sentence says how): RegexParses: laid · RegexReads: laid · RegexMeans: loops, laid · RegexPrints: loops, laid · RegexBack: loops, laid · RegexSame: loops, laid.
  DERIVED. THE GIVEN ROWS OF THIS SEAT. 6 by the template 'for every input the law returns true; each argument reads behind the call as it read before'; 0 by the template 'total and deterministic' (their statements: YtmaipfiikbcfmaaDoorTotals.lean).
  GIVEN WITH THE SEED: the statements are not yours to turn. If you find one false, say at which input.
  Laid BY PROGRAM, IN A SANDBOX (cutbox-rows.mjs): the forced cells as the released guide's own fill.sh prints them over the translation 9a4a9fc53c6d2ff0… (all of the seat's roots in one cut). By AI agents, Wed Nov 11 2026. No macro, syntax, notation, axiom, sorry.
-/
import Derived.Test.YtmaipfiikbcfmaaDoorChecked
import GoSem.PinnedTables
import GoSem.Claim
import GoSem.ClaimJoined
import GoSem.ClaimMapViews
import Derived.JoinedTies
import Derived.KernelRfl
namespace Go.Proofs.YtmaipfiikbcfmaaDoor
/- THE CELL 'sum', in the pinned program and in every row, IS THE sha256 OF THE DUMP (.gsa) THAT YtmaipfiikbcfmaaDoorProg.lean LOADS. Nothing in Lean hashes anything: it is a label: what it is worth is what the hold of that sum in a sandbox is worth. -/
noncomputable def Tryd.pinned : Pinned := { name := "ytmaipfiikbcfmaadoor", sum := "9a4a9fc53c6d2ff0737d0772feb62245fa44a9db0faec270260ec1ea919b4655", checked := Tryd.checked }
namespace Rows
def none {H : Type} : Left H := { results := [], args := [] }

/- WHAT THE LISTED PACKAGE-LEVEL VARIABLES READ AS WHEN THE CALL BEGINS. Each datum BY PROGRAM (the guide's laid-datum.mjs) off the statement by which the dump's own 'gosem.cut.vars' lays the variable. In a bare row this is a premise. The card (YtmaipfiikbcfmaaDoorCards.lean) ties it to the program's text. -/
def laid_unicode_utf8_acceptRanges {H : Type} : DataW H := .agg [.agg [.lit (.int .u8 128), .lit (.int .u8 191)], .agg [.lit (.int .u8 160), .lit (.int .u8 191)], .agg [.lit (.int .u8 128), .lit (.int .u8 159)], .agg [.lit (.int .u8 144), .lit (.int .u8 191)], .agg [.lit (.int .u8 128), .lit (.int .u8 143)], .agg [.lit (.int .u8 0), .lit (.int .u8 0)], .agg [.lit (.int .u8 0), .lit (.int .u8 0)], .agg [.lit (.int .u8 0), .lit (.int .u8 0)], .agg [.lit (.int .u8 0), .lit (.int .u8 0)], .agg [.lit (.int .u8 0), .lit (.int .u8 0)], .agg [.lit (.int .u8 0), .lit (.int .u8 0)], .agg [.lit (.int .u8 0), .lit (.int .u8 0)], .agg [.lit (.int .u8 0), .lit (.int .u8 0)], .agg [.lit (.int .u8 0), .lit (.int .u8 0)], .agg [.lit (.int .u8 0), .lit (.int .u8 0)], .agg [.lit (.int .u8 0), .lit (.int .u8 0)]]
/-- One of Go's own tables, pinned by name: the form's constant. -/
def laid_unicode_utf8_first : DataW Unit := Go.Pinned.utf8First

/-- 'milestonelaw09.RegexParses': WHATEVER THE INPUT: true; the input reads as it did. -/
def regexParsesSpec : ChangeSpec := { name := "regexParses", fn := fun _ => fun
  | [d] => { results := [.lit (.bool true)], args := [d] }
  | _ => none }
def regexParsesRow : OpenClaim := { program := "ytmaipfiikbcfmaadoor", sum := "9a4a9fc53c6d2ff0737d0772feb62245fa44a9db0faec270260ec1ea919b4655", func := "milestone/milestonelaw09.RegexParses", spec := "regexParses", inPlace := ["internal/bytealg.IndexByteString", "internal/bytealg.IndexString"], unfollowed := true, recurses := true, named := ["unicode/utf8.first", "unicode/utf8.acceptRanges", "internal/bytealg.MaxLen"], apart := false, laid := [("unicode/utf8.acceptRanges", laid_unicode_utf8_acceptRanges), ("unicode/utf8.first", laid_unicode_utf8_first)] }
def RegexParsesSaid : Prop := regexParsesRow.holds Tryd.pinned (OpenSpec.ofChange regexParsesSpec)

/-- ITS FALSE NEIGHBOUR: 'it returns false'. Refute it at one input. -/
def regexParsesWrong : ChangeSpec := { name := "regexParses", fn := fun _ => fun
  | [d] => { results := [.lit (.bool false)], args := [d] }
  | _ => none }
def RegexParsesWrongFalsely : Prop := regexParsesRow.holds Tryd.pinned (OpenSpec.ofChange regexParsesWrong)

/-- 'milestonelaw09.RegexReads': WHATEVER THE INPUT: true; the input reads as it did. -/
def regexReadsSpec : ChangeSpec := { name := "regexReads", fn := fun _ => fun
  | [d] => { results := [.lit (.bool true)], args := [d] }
  | _ => none }
def regexReadsRow : OpenClaim := { program := "ytmaipfiikbcfmaadoor", sum := "9a4a9fc53c6d2ff0737d0772feb62245fa44a9db0faec270260ec1ea919b4655", func := "milestone/milestonelaw09.RegexReads", spec := "regexReads", inPlace := ["internal/bytealg.IndexByteString", "internal/bytealg.IndexString"], unfollowed := true, recurses := true, named := ["unicode/utf8.first", "unicode/utf8.acceptRanges", "internal/bytealg.MaxLen"], apart := false, laid := [("unicode/utf8.acceptRanges", laid_unicode_utf8_acceptRanges), ("unicode/utf8.first", laid_unicode_utf8_first)] }
def RegexReadsSaid : Prop := regexReadsRow.holds Tryd.pinned (OpenSpec.ofChange regexReadsSpec)

/-- ITS FALSE NEIGHBOUR: 'it returns false'. Refute it at one input. -/
def regexReadsWrong : ChangeSpec := { name := "regexReads", fn := fun _ => fun
  | [d] => { results := [.lit (.bool false)], args := [d] }
  | _ => none }
def RegexReadsWrongFalsely : Prop := regexReadsRow.holds Tryd.pinned (OpenSpec.ofChange regexReadsWrong)

/-- 'milestonelaw09.RegexMeans': WHATEVER THE INPUT: true; the input reads as it did. -/
def regexMeansSpec : ChangeSpec := { name := "regexMeans", fn := fun _ => fun
  | [d1, d2, d3] => { results := [.lit (.bool true)], args := [d1, d2, d3] }
  | _ => none }
def regexMeansRow : OpenClaim := { program := "ytmaipfiikbcfmaadoor", sum := "9a4a9fc53c6d2ff0737d0772feb62245fa44a9db0faec270260ec1ea919b4655", func := "milestone/milestonelaw09.RegexMeans", spec := "regexMeans", inPlace := ["internal/bytealg.IndexByteString", "internal/bytealg.IndexString"], unfollowed := true, recurses := true, named := ["unicode/utf8.first", "unicode/utf8.acceptRanges", "internal/bytealg.MaxLen"], loops := true, apart := false, laid := [("unicode/utf8.acceptRanges", laid_unicode_utf8_acceptRanges), ("unicode/utf8.first", laid_unicode_utf8_first)] }
def RegexMeansSaid : Prop := regexMeansRow.holds Tryd.pinned (OpenSpec.ofChange regexMeansSpec)

/-- ITS FALSE NEIGHBOUR: 'it returns false'. Refute it at one input. -/
def regexMeansWrong : ChangeSpec := { name := "regexMeans", fn := fun _ => fun
  | [d1, d2, d3] => { results := [.lit (.bool false)], args := [d1, d2, d3] }
  | _ => none }
def RegexMeansWrongFalsely : Prop := regexMeansRow.holds Tryd.pinned (OpenSpec.ofChange regexMeansWrong)

/-- 'milestonelaw09.RegexPrints': WHATEVER THE INPUT: true; the input reads as it did. -/
def regexPrintsSpec : ChangeSpec := { name := "regexPrints", fn := fun _ => fun
  | [d] => { results := [.lit (.bool true)], args := [d] }
  | _ => none }
def regexPrintsRow : OpenClaim := { program := "ytmaipfiikbcfmaadoor", sum := "9a4a9fc53c6d2ff0737d0772feb62245fa44a9db0faec270260ec1ea919b4655", func := "milestone/milestonelaw09.RegexPrints", spec := "regexPrints", inPlace := ["internal/bytealg.IndexByteString", "internal/bytealg.IndexString"], unfollowed := true, recurses := true, named := ["unicode/utf8.first", "unicode/utf8.acceptRanges", "internal/bytealg.MaxLen"], loops := true, apart := false, laid := [("unicode/utf8.acceptRanges", laid_unicode_utf8_acceptRanges), ("unicode/utf8.first", laid_unicode_utf8_first)] }
def RegexPrintsSaid : Prop := regexPrintsRow.holds Tryd.pinned (OpenSpec.ofChange regexPrintsSpec)

/-- ITS FALSE NEIGHBOUR: 'it returns false'. Refute it at one input. -/
def regexPrintsWrong : ChangeSpec := { name := "regexPrints", fn := fun _ => fun
  | [d] => { results := [.lit (.bool false)], args := [d] }
  | _ => none }
def RegexPrintsWrongFalsely : Prop := regexPrintsRow.holds Tryd.pinned (OpenSpec.ofChange regexPrintsWrong)

/-- 'milestonelaw09.RegexBack': WHATEVER THE INPUT: true; the input reads as it did. -/
def regexBackSpec : ChangeSpec := { name := "regexBack", fn := fun _ => fun
  | [d1, d2] => { results := [.lit (.bool true)], args := [d1, d2] }
  | _ => none }
def regexBackRow : OpenClaim := { program := "ytmaipfiikbcfmaadoor", sum := "9a4a9fc53c6d2ff0737d0772feb62245fa44a9db0faec270260ec1ea919b4655", func := "milestone/milestonelaw09.RegexBack", spec := "regexBack", inPlace := ["internal/bytealg.IndexByteString", "internal/bytealg.IndexString"], unfollowed := true, recurses := true, named := ["unicode/utf8.first", "unicode/utf8.acceptRanges", "internal/bytealg.MaxLen"], loops := true, apart := false, laid := [("unicode/utf8.acceptRanges", laid_unicode_utf8_acceptRanges), ("unicode/utf8.first", laid_unicode_utf8_first)] }
def RegexBackSaid : Prop := regexBackRow.holds Tryd.pinned (OpenSpec.ofChange regexBackSpec)

/-- ITS FALSE NEIGHBOUR: 'it returns false'. Refute it at one input. -/
def regexBackWrong : ChangeSpec := { name := "regexBack", fn := fun _ => fun
  | [d1, d2] => { results := [.lit (.bool false)], args := [d1, d2] }
  | _ => none }
def RegexBackWrongFalsely : Prop := regexBackRow.holds Tryd.pinned (OpenSpec.ofChange regexBackWrong)

/-- 'milestonelaw09.RegexSame': WHATEVER THE INPUT: true; the input reads as it did. -/
def regexSameSpec : ChangeSpec := { name := "regexSame", fn := fun _ => fun
  | [d1, d2] => { results := [.lit (.bool true)], args := [d1, d2] }
  | _ => none }
def regexSameRow : OpenClaim := { program := "ytmaipfiikbcfmaadoor", sum := "9a4a9fc53c6d2ff0737d0772feb62245fa44a9db0faec270260ec1ea919b4655", func := "milestone/milestonelaw09.RegexSame", spec := "regexSame", inPlace := ["internal/bytealg.IndexByteString", "internal/bytealg.IndexString"], unfollowed := true, recurses := true, named := ["unicode/utf8.first", "unicode/utf8.acceptRanges", "internal/bytealg.MaxLen"], loops := true, apart := false, laid := [("unicode/utf8.acceptRanges", laid_unicode_utf8_acceptRanges), ("unicode/utf8.first", laid_unicode_utf8_first)] }
def RegexSameSaid : Prop := regexSameRow.holds Tryd.pinned (OpenSpec.ofChange regexSameSpec)

/-- ITS FALSE NEIGHBOUR: 'it returns false'. Refute it at one input. -/
def regexSameWrong : ChangeSpec := { name := "regexSame", fn := fun _ => fun
  | [d1, d2] => { results := [.lit (.bool false)], args := [d1, d2] }
  | _ => none }
def RegexSameWrongFalsely : Prop := regexSameRow.holds Tryd.pinned (OpenSpec.ofChange regexSameWrong)

/- THE SECOND FORM. 'bulk': how many values and letters a reading holds, each counted each time it is reached (what is shared counts as often as it is met; a slice's spare places count too). A statement '..UptoSaid' is the law's where the arguments, and the package variables that the reading takes, are together of bulk at most 1048576: NARROWER than '..Said'. Prove '..Said' where nothing that the law and all that it calls make is longer than what came in: it says more and counts as full. Else prove '..UptoSaid'. A law counts once. -/
mutual
def uptoBulk {H : Type} : DataW H → Nat
  | .lit (.string bytes) => bytes.length + 1
  | .lit _ => 1
  | .nil => 1
  | .ptr d => uptoBulk d + 1
  | .slice elems spare => uptoBulkAll elems + uptoBulkAll spare + 1
  | .agg parts => uptoBulkAll parts + 1
  | .iface _ d => uptoBulk d + 1
  | .map entries => uptoBulkEntries entries + 1
  | .held _ => 1
def uptoBulkAll {H : Type} : List (DataW H) → Nat
  | [] => 0
  | d :: r => uptoBulk d + uptoBulkAll r
def uptoBulkEntries {H : Type} : List (Lit × DataW H) → Nat
  | [] => 0
  | x :: r => uptoBulkEntry x + uptoBulkEntries r
def uptoBulkEntry {H : Type} : Lit × DataW H → Nat
  | (.string bytes, d) => bytes.length + uptoBulk d + 1
  | (_, d) => uptoBulk d + 1
 end
def uptoSmall : (H : Type) → List (DataW H) → Bool := fun _ ds => decide (uptoBulkAll ds ≤ 1048576)
def OpenSpec.upto (s : _root_.Go.ChangeSpec) : _root_.Go.OpenSpec := { _root_.Go.OpenSpec.ofChange s with cond := some uptoSmall }

/-- 'milestonelaw09.RegexParses', WHERE WHAT IT READS IS OF BULK AT MOST 1048576: true; the input reads as it did. -/
def regexParsesUptoRow : OpenClaim := { program := "ytmaipfiikbcfmaadoor", sum := "9a4a9fc53c6d2ff0737d0772feb62245fa44a9db0faec270260ec1ea919b4655", func := "milestone/milestonelaw09.RegexParses", spec := "regexParses", inPlace := ["internal/bytealg.IndexByteString", "internal/bytealg.IndexString"], unfollowed := true, recurses := true, named := ["unicode/utf8.first", "unicode/utf8.acceptRanges", "internal/bytealg.MaxLen"], apart := false, laid := [("unicode/utf8.acceptRanges", laid_unicode_utf8_acceptRanges), ("unicode/utf8.first", laid_unicode_utf8_first)], narrowed := true }
def RegexParsesUptoSaid : Prop := regexParsesUptoRow.holds Tryd.pinned (OpenSpec.upto regexParsesSpec)

/-- 'milestonelaw09.RegexReads', WHERE WHAT IT READS IS OF BULK AT MOST 1048576: true; the input reads as it did. -/
def regexReadsUptoRow : OpenClaim := { program := "ytmaipfiikbcfmaadoor", sum := "9a4a9fc53c6d2ff0737d0772feb62245fa44a9db0faec270260ec1ea919b4655", func := "milestone/milestonelaw09.RegexReads", spec := "regexReads", inPlace := ["internal/bytealg.IndexByteString", "internal/bytealg.IndexString"], unfollowed := true, recurses := true, named := ["unicode/utf8.first", "unicode/utf8.acceptRanges", "internal/bytealg.MaxLen"], apart := false, laid := [("unicode/utf8.acceptRanges", laid_unicode_utf8_acceptRanges), ("unicode/utf8.first", laid_unicode_utf8_first)], narrowed := true }
def RegexReadsUptoSaid : Prop := regexReadsUptoRow.holds Tryd.pinned (OpenSpec.upto regexReadsSpec)

/-- 'milestonelaw09.RegexMeans', WHERE WHAT IT READS IS OF BULK AT MOST 1048576: true; the input reads as it did. -/
def regexMeansUptoRow : OpenClaim := { program := "ytmaipfiikbcfmaadoor", sum := "9a4a9fc53c6d2ff0737d0772feb62245fa44a9db0faec270260ec1ea919b4655", func := "milestone/milestonelaw09.RegexMeans", spec := "regexMeans", inPlace := ["internal/bytealg.IndexByteString", "internal/bytealg.IndexString"], unfollowed := true, recurses := true, named := ["unicode/utf8.first", "unicode/utf8.acceptRanges", "internal/bytealg.MaxLen"], loops := true, apart := false, laid := [("unicode/utf8.acceptRanges", laid_unicode_utf8_acceptRanges), ("unicode/utf8.first", laid_unicode_utf8_first)], narrowed := true }
def RegexMeansUptoSaid : Prop := regexMeansUptoRow.holds Tryd.pinned (OpenSpec.upto regexMeansSpec)

/-- 'milestonelaw09.RegexPrints', WHERE WHAT IT READS IS OF BULK AT MOST 1048576: true; the input reads as it did. -/
def regexPrintsUptoRow : OpenClaim := { program := "ytmaipfiikbcfmaadoor", sum := "9a4a9fc53c6d2ff0737d0772feb62245fa44a9db0faec270260ec1ea919b4655", func := "milestone/milestonelaw09.RegexPrints", spec := "regexPrints", inPlace := ["internal/bytealg.IndexByteString", "internal/bytealg.IndexString"], unfollowed := true, recurses := true, named := ["unicode/utf8.first", "unicode/utf8.acceptRanges", "internal/bytealg.MaxLen"], loops := true, apart := false, laid := [("unicode/utf8.acceptRanges", laid_unicode_utf8_acceptRanges), ("unicode/utf8.first", laid_unicode_utf8_first)], narrowed := true }
def RegexPrintsUptoSaid : Prop := regexPrintsUptoRow.holds Tryd.pinned (OpenSpec.upto regexPrintsSpec)

/-- 'milestonelaw09.RegexBack', WHERE WHAT IT READS IS OF BULK AT MOST 1048576: true; the input reads as it did. -/
def regexBackUptoRow : OpenClaim := { program := "ytmaipfiikbcfmaadoor", sum := "9a4a9fc53c6d2ff0737d0772feb62245fa44a9db0faec270260ec1ea919b4655", func := "milestone/milestonelaw09.RegexBack", spec := "regexBack", inPlace := ["internal/bytealg.IndexByteString", "internal/bytealg.IndexString"], unfollowed := true, recurses := true, named := ["unicode/utf8.first", "unicode/utf8.acceptRanges", "internal/bytealg.MaxLen"], loops := true, apart := false, laid := [("unicode/utf8.acceptRanges", laid_unicode_utf8_acceptRanges), ("unicode/utf8.first", laid_unicode_utf8_first)], narrowed := true }
def RegexBackUptoSaid : Prop := regexBackUptoRow.holds Tryd.pinned (OpenSpec.upto regexBackSpec)

/-- 'milestonelaw09.RegexSame', WHERE WHAT IT READS IS OF BULK AT MOST 1048576: true; the input reads as it did. -/
def regexSameUptoRow : OpenClaim := { program := "ytmaipfiikbcfmaadoor", sum := "9a4a9fc53c6d2ff0737d0772feb62245fa44a9db0faec270260ec1ea919b4655", func := "milestone/milestonelaw09.RegexSame", spec := "regexSame", inPlace := ["internal/bytealg.IndexByteString", "internal/bytealg.IndexString"], unfollowed := true, recurses := true, named := ["unicode/utf8.first", "unicode/utf8.acceptRanges", "internal/bytealg.MaxLen"], loops := true, apart := false, laid := [("unicode/utf8.acceptRanges", laid_unicode_utf8_acceptRanges), ("unicode/utf8.first", laid_unicode_utf8_first)], narrowed := true }
def RegexSameUptoSaid : Prop := regexSameUptoRow.holds Tryd.pinned (OpenSpec.upto regexSameSpec)

end Rows
end Go.Proofs.YtmaipfiikbcfmaaDoor
