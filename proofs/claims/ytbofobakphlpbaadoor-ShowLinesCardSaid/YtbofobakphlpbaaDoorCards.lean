/-
  DERIVED. GIVEN WITH THE SEED: THE CARDS: each row of YtbofobakphlpbaaDoorRows.lean that lists a variable, with what it lists TIED to the program's text (the seventh form; the later family's looks); each row that meets fmt, with fmt's text TOLD by the authors' own Lean function (tested against real Go, not proved from fmt's source: count such statements apart). THE CARD IS WHAT COUNTS. Prove the row's statement (the work); the ties are given (YtbofobakphlpbaaDoorTie.lean); close each card by the builder's one call (the guide's Derived/Test/ToyasCard.lean, 'card_holds'). Laid BY PROGRAM, IN A SANDBOX (cutbox-door.mjs). By AI agents, Wed Nov 11 2026. No macro, syntax, notation, axiom, sorry.
-/
import Derived.Test.YtbofobakphlpbaaDoorRows
import GoSem.ClaimSeven
namespace Go.Proofs.YtbofobakphlpbaaDoor
namespace Rows

/-- THE TIED CARD OF 'revetmentlaw.ModeChanges'. -/
def modeChangesCard : Claim7 := { stood := { row := modeChangesRow, standIns := [], harness := (true, "e3a29324296b3995ac475e0ddada6b9a6761136bca494ac5eee55f49d43b8523"), looks := true }, kinds := [], alts := [], laidByText := true, laidKinds := [.data, .handle, .pinned], laidTests := true, laidLooks := .later }
def ModeChangesCardSaid : Prop := Claim7.holds Tryd.pinned (.plain (OpenSpec.ofChange modeChangesSpec)) modeChangesCard

/-- THE TIED CARD OF 'revetmentlaw.GlobMatches'. -/
def globMatchesCard : Claim7 := { stood := { row := globMatchesRow, standIns := [], harness := (true, "e3a29324296b3995ac475e0ddada6b9a6761136bca494ac5eee55f49d43b8523"), looks := true }, kinds := [], alts := [], laidByText := true, laidKinds := [.handle], laidTests := true, laidLooks := .later }
def GlobMatchesCardSaid : Prop := Claim7.holds Tryd.pinned (.plain (OpenSpec.ofChange globMatchesSpec)) globMatchesCard

/-- THE TIED CARD OF 'revetmentlaw.ShowLines'. -/
def showLinesCard : Claim7 := { stood := { row := showLinesRow, standIns := [], harness := (true, "e3a29324296b3995ac475e0ddada6b9a6761136bca494ac5eee55f49d43b8523"), looks := true }, kinds := [], alts := [], laidByText := true, laidKinds := [.data, .data, .data, .data, .pinned, .pinned, .pinned, .pinned, .pinned, .pinned, .pinned], laidTests := true, laidLooks := .later }
def ShowLinesCardSaid : Prop := Claim7.holds Tryd.pinned (.plain (OpenSpec.ofChange showLinesSpec)) showLinesCard

/-- THE TIED CARD OF 'revetmentlaw.PaxReads'. -/
def paxReadsCard : Claim7 := { stood := { row := paxReadsRow, standIns := [], harness := (true, "e3a29324296b3995ac475e0ddada6b9a6761136bca494ac5eee55f49d43b8523"), looks := true }, kinds := [], alts := [], laidByText := true, laidKinds := [.data, .data, .data, .handle, .sentinel, .sentinel], laidTests := true, laidLooks := .later }
def PaxReadsCardSaid : Prop := Claim7.holds Tryd.pinned (.plain (OpenSpec.ofChange paxReadsSpec)) paxReadsCard

/-- THE SECOND FORM's CARD OF 'revetmentlaw.ModeChanges'. -/
def modeChangesUptoCard : Claim7 := { stood := { row := modeChangesUptoRow, standIns := [], harness := (true, "e3a29324296b3995ac475e0ddada6b9a6761136bca494ac5eee55f49d43b8523"), looks := true }, kinds := [], alts := [], laidByText := true, laidKinds := [.data, .handle, .pinned], laidTests := true, laidLooks := .later }
def ModeChangesUptoCardSaid : Prop := Claim7.holds Tryd.pinned (.plain (OpenSpec.upto modeChangesSpec)) modeChangesUptoCard

/-- THE SECOND FORM's CARD OF 'revetmentlaw.GlobMatches'. -/
def globMatchesUptoCard : Claim7 := { stood := { row := globMatchesUptoRow, standIns := [], harness := (true, "e3a29324296b3995ac475e0ddada6b9a6761136bca494ac5eee55f49d43b8523"), looks := true }, kinds := [], alts := [], laidByText := true, laidKinds := [.handle], laidTests := true, laidLooks := .later }
def GlobMatchesUptoCardSaid : Prop := Claim7.holds Tryd.pinned (.plain (OpenSpec.upto globMatchesSpec)) globMatchesUptoCard

/-- THE SECOND FORM's CARD OF 'revetmentlaw.ShowLines'. -/
def showLinesUptoCard : Claim7 := { stood := { row := showLinesUptoRow, standIns := [], harness := (true, "e3a29324296b3995ac475e0ddada6b9a6761136bca494ac5eee55f49d43b8523"), looks := true }, kinds := [], alts := [], laidByText := true, laidKinds := [.data, .data, .data, .data, .pinned, .pinned, .pinned, .pinned, .pinned, .pinned, .pinned], laidTests := true, laidLooks := .later }
def ShowLinesUptoCardSaid : Prop := Claim7.holds Tryd.pinned (.plain (OpenSpec.upto showLinesSpec)) showLinesUptoCard

/-- THE SECOND FORM's CARD OF 'revetmentlaw.PaxReads'. -/
def paxReadsUptoCard : Claim7 := { stood := { row := paxReadsUptoRow, standIns := [], harness := (true, "e3a29324296b3995ac475e0ddada6b9a6761136bca494ac5eee55f49d43b8523"), looks := true }, kinds := [], alts := [], laidByText := true, laidKinds := [.data, .data, .data, .handle, .sentinel, .sentinel], laidTests := true, laidLooks := .later }
def PaxReadsUptoCardSaid : Prop := Claim7.holds Tryd.pinned (.plain (OpenSpec.upto paxReadsSpec)) paxReadsUptoCard
end Rows
end Go.Proofs.YtbofobakphlpbaaDoor
