/-
  DERIVED. GIVEN WITH THE SEED: THE CARDS: each row of YtioceakpmnhohaaDoorRows.lean that lists a variable, with what it lists TIED to the program's text (the seventh form; the later family's looks); each row that meets fmt, with fmt's text TOLD by the authors' own Lean function (tested against real Go, not proved from fmt's source: count such statements apart). THE CARD IS WHAT COUNTS. Prove the row's statement (the work); the ties are given (YtioceakpmnhohaaDoorTie.lean); close each card by the builder's one call (the guide's Derived/Test/ToyasCard.lean, 'card_holds'). Laid BY PROGRAM, IN A SANDBOX (cutbox-door.mjs). By AI agents, Wed Nov 11 2026. No macro, syntax, notation, axiom, sorry.
-/
import Derived.Test.YtioceakpmnhohaaDoorRows
import GoSem.ClaimSeven
namespace Go.Proofs.YtioceakpmnhohaaDoor
namespace Rows

/-- THE TIED CARD OF 'revetmentlaw.NumberBinary'. -/
def numberBinaryCard : Claim7 := { stood := { row := numberBinaryRow, standIns := [], harness := (true, "6595720e4fb20f6e9a0f584a3aca9d5a4639edab9435a6fd766e0cc4b6030ffd"), looks := true }, kinds := [], alts := [], laidByText := true, laidKinds := [.handle], laidTests := true, laidLooks := .later }
def NumberBinaryCardSaid : Prop := Claim7.holds Tryd.pinned (.plain (OpenSpec.ofChange numberBinarySpec)) numberBinaryCard

/-- THE TIED CARD OF 'revetmentlaw.BlockSums'. -/
def blockSumsCard : Claim7 := { stood := { row := blockSumsRow, standIns := [], harness := (true, "6595720e4fb20f6e9a0f584a3aca9d5a4639edab9435a6fd766e0cc4b6030ffd"), looks := true }, kinds := [], alts := [], laidByText := true, laidKinds := [.handle], laidTests := true, laidLooks := .later }
def BlockSumsCardSaid : Prop := Claim7.holds Tryd.pinned (.plain (OpenSpec.ofChange blockSumsSpec)) blockSumsCard

/-- THE TIED CARD OF 'revetmentlaw.HoleTakes'. -/
def holeTakesCard : Claim7 := { stood := { row := holeTakesRow, standIns := [], harness := (true, "6595720e4fb20f6e9a0f584a3aca9d5a4639edab9435a6fd766e0cc4b6030ffd"), looks := true }, kinds := [], alts := [], laidByText := true, laidKinds := [.handle], laidTests := true, laidLooks := .later }
def HoleTakesCardSaid : Prop := Claim7.holds Tryd.pinned (.plain (OpenSpec.ofChange holeTakesSpec)) holeTakesCard

/-- THE TIED CARD OF 'revetmentlaw.PathParts'. -/
def pathPartsCard : Claim7 := { stood := { row := pathPartsRow, standIns := [], harness := (true, "6595720e4fb20f6e9a0f584a3aca9d5a4639edab9435a6fd766e0cc4b6030ffd"), looks := true }, kinds := [], alts := [], laidByText := true, laidKinds := [.data, .pinned], laidTests := true, laidLooks := .later }
def PathPartsCardSaid : Prop := Claim7.holds Tryd.pinned (.plain (OpenSpec.ofChange pathPartsSpec)) pathPartsCard

/-- THE TIED CARD OF 'revetmentlaw.GlobMatches'. -/
def globMatchesCard : Claim7 := { stood := { row := globMatchesRow, standIns := [], harness := (true, "6595720e4fb20f6e9a0f584a3aca9d5a4639edab9435a6fd766e0cc4b6030ffd"), looks := true }, kinds := [], alts := [], laidByText := true, laidKinds := [.handle], laidTests := true, laidLooks := .later }
def GlobMatchesCardSaid : Prop := Claim7.holds Tryd.pinned (.plain (OpenSpec.ofChange globMatchesSpec)) globMatchesCard

/-- THE TIED CARD OF 'revetmentlaw.PathCompares'. -/
def pathComparesCard : Claim7 := { stood := { row := pathComparesRow, standIns := [], harness := (true, "6595720e4fb20f6e9a0f584a3aca9d5a4639edab9435a6fd766e0cc4b6030ffd"), looks := true }, kinds := [], alts := [], laidByText := true, laidKinds := [.data, .pinned], laidTests := true, laidLooks := .later }
def PathComparesCardSaid : Prop := Claim7.holds Tryd.pinned (.plain (OpenSpec.ofChange pathComparesSpec)) pathComparesCard

/-- THE SECOND FORM's CARD OF 'revetmentlaw.NumberBinary'. -/
def numberBinaryUptoCard : Claim7 := { stood := { row := numberBinaryUptoRow, standIns := [], harness := (true, "6595720e4fb20f6e9a0f584a3aca9d5a4639edab9435a6fd766e0cc4b6030ffd"), looks := true }, kinds := [], alts := [], laidByText := true, laidKinds := [.handle], laidTests := true, laidLooks := .later }
def NumberBinaryUptoCardSaid : Prop := Claim7.holds Tryd.pinned (.plain (OpenSpec.upto numberBinarySpec)) numberBinaryUptoCard

/-- THE SECOND FORM's CARD OF 'revetmentlaw.BlockSums'. -/
def blockSumsUptoCard : Claim7 := { stood := { row := blockSumsUptoRow, standIns := [], harness := (true, "6595720e4fb20f6e9a0f584a3aca9d5a4639edab9435a6fd766e0cc4b6030ffd"), looks := true }, kinds := [], alts := [], laidByText := true, laidKinds := [.handle], laidTests := true, laidLooks := .later }
def BlockSumsUptoCardSaid : Prop := Claim7.holds Tryd.pinned (.plain (OpenSpec.upto blockSumsSpec)) blockSumsUptoCard

/-- THE SECOND FORM's CARD OF 'revetmentlaw.HoleTakes'. -/
def holeTakesUptoCard : Claim7 := { stood := { row := holeTakesUptoRow, standIns := [], harness := (true, "6595720e4fb20f6e9a0f584a3aca9d5a4639edab9435a6fd766e0cc4b6030ffd"), looks := true }, kinds := [], alts := [], laidByText := true, laidKinds := [.handle], laidTests := true, laidLooks := .later }
def HoleTakesUptoCardSaid : Prop := Claim7.holds Tryd.pinned (.plain (OpenSpec.upto holeTakesSpec)) holeTakesUptoCard

/-- THE SECOND FORM's CARD OF 'revetmentlaw.PathParts'. -/
def pathPartsUptoCard : Claim7 := { stood := { row := pathPartsUptoRow, standIns := [], harness := (true, "6595720e4fb20f6e9a0f584a3aca9d5a4639edab9435a6fd766e0cc4b6030ffd"), looks := true }, kinds := [], alts := [], laidByText := true, laidKinds := [.data, .pinned], laidTests := true, laidLooks := .later }
def PathPartsUptoCardSaid : Prop := Claim7.holds Tryd.pinned (.plain (OpenSpec.upto pathPartsSpec)) pathPartsUptoCard

/-- THE SECOND FORM's CARD OF 'revetmentlaw.GlobMatches'. -/
def globMatchesUptoCard : Claim7 := { stood := { row := globMatchesUptoRow, standIns := [], harness := (true, "6595720e4fb20f6e9a0f584a3aca9d5a4639edab9435a6fd766e0cc4b6030ffd"), looks := true }, kinds := [], alts := [], laidByText := true, laidKinds := [.handle], laidTests := true, laidLooks := .later }
def GlobMatchesUptoCardSaid : Prop := Claim7.holds Tryd.pinned (.plain (OpenSpec.upto globMatchesSpec)) globMatchesUptoCard

/-- THE SECOND FORM's CARD OF 'revetmentlaw.PathCompares'. -/
def pathComparesUptoCard : Claim7 := { stood := { row := pathComparesUptoRow, standIns := [], harness := (true, "6595720e4fb20f6e9a0f584a3aca9d5a4639edab9435a6fd766e0cc4b6030ffd"), looks := true }, kinds := [], alts := [], laidByText := true, laidKinds := [.data, .pinned], laidTests := true, laidLooks := .later }
def PathComparesUptoCardSaid : Prop := Claim7.holds Tryd.pinned (.plain (OpenSpec.upto pathComparesSpec)) pathComparesUptoCard
end Rows
end Go.Proofs.YtioceakpmnhohaaDoor
