/-
  DERIVED. GIVEN WITH THE SEED: THE CARDS: each row of YtedcibjnnihhfaaDoorRows.lean that lists a variable, with what it lists TIED to the program's text (the seventh form; the later family's looks); each row that meets fmt, with fmt's text TOLD by the authors' own Lean function (tested against real Go, not proved from fmt's source: count such statements apart). THE CARD IS WHAT COUNTS. Prove the row's statement (the work); the ties are given (YtedcibjnnihhfaaDoorTie.lean); close each card by the builder's one call (the guide's Derived/Test/ToyasCard.lean, 'card_holds'). Laid BY PROGRAM, IN A SANDBOX (cutbox-door.mjs). By AI agents, Wed Nov 11 2026. No macro, syntax, notation, axiom, sorry.
-/
import Derived.Test.YtedcibjnnihhfaaDoorRows
import GoSem.ClaimSeven
namespace Go.Proofs.YtedcibjnnihhfaaDoor
namespace Rows

/-- THE TIED CARD OF 'revetmentlaw.HoleLays'. -/
def holeLaysCard : Claim7 := { stood := { row := holeLaysRow, standIns := [], harness := (true, "a9bca1065ff446352bdc3a168b0553f6b108740f6d6f4f6821007e04bfbe8f93"), looks := true }, kinds := [], alts := [], laidByText := true, laidKinds := [.handle], laidTests := true, laidLooks := .later }
def HoleLaysCardSaid : Prop := Claim7.holds Tryd.pinned (.plain (OpenSpec.ofChange holeLaysSpec)) holeLaysCard

/-- THE TIED CARD OF 'revetmentlaw.AlterLasts'. -/
def alterLastsCard : Claim7 := { stood := { row := alterLastsRow, standIns := [], harness := (true, "a9bca1065ff446352bdc3a168b0553f6b108740f6d6f4f6821007e04bfbe8f93"), looks := true }, kinds := [], alts := [], laidByText := true, laidKinds := [.data, .pinned], laidTests := true, laidLooks := .later }
def AlterLastsCardSaid : Prop := Claim7.holds Tryd.pinned (.plain (OpenSpec.ofChange alterLastsSpec)) alterLastsCard

/-- THE TIED CARD OF 'revetmentlaw.HoleFinds'. -/
def holeFindsCard : Claim7 := { stood := { row := holeFindsRow, standIns := [], harness := (true, "a9bca1065ff446352bdc3a168b0553f6b108740f6d6f4f6821007e04bfbe8f93"), looks := true }, kinds := [], alts := [], laidByText := true, laidKinds := [.data, .handle, .pinned], laidTests := true, laidLooks := .later }
def HoleFindsCardSaid : Prop := Claim7.holds Tryd.pinned (.plain (OpenSpec.ofChange holeFindsSpec)) holeFindsCard

/-- THE TIED CARD OF 'revetmentlaw.ModeReads'. -/
def modeReadsCard : Claim7 := { stood := { row := modeReadsRow, standIns := [], harness := (true, "a9bca1065ff446352bdc3a168b0553f6b108740f6d6f4f6821007e04bfbe8f93"), looks := true }, kinds := [], alts := [], laidByText := true, laidKinds := [.data, .handle, .pinned, .pinned], laidTests := true, laidLooks := .later }
def ModeReadsCardSaid : Prop := Claim7.holds Tryd.pinned (.plain (OpenSpec.ofChange modeReadsSpec)) modeReadsCard

/-- THE TIED CARD OF 'revetmentlaw.ModeTexts'. -/
def modeTextsCard : Claim7 := { stood := { row := modeTextsRow, standIns := [], harness := (true, "a9bca1065ff446352bdc3a168b0553f6b108740f6d6f4f6821007e04bfbe8f93"), looks := true }, kinds := [], alts := [], laidByText := true, laidKinds := [.data, .pinned, .pinned], laidTests := true, laidLooks := .later }
def ModeTextsCardSaid : Prop := Claim7.holds Tryd.pinned (.plain (OpenSpec.ofChange modeTextsSpec)) modeTextsCard

/-- THE TIED CARD OF 'revetmentlaw.GlobMatches'. -/
def globMatchesCard : Claim7 := { stood := { row := globMatchesRow, standIns := [], harness := (true, "a9bca1065ff446352bdc3a168b0553f6b108740f6d6f4f6821007e04bfbe8f93"), looks := true }, kinds := [], alts := [], laidByText := true, laidKinds := [.handle], laidTests := true, laidLooks := .later }
def GlobMatchesCardSaid : Prop := Claim7.holds Tryd.pinned (.plain (OpenSpec.ofChange globMatchesSpec)) globMatchesCard

/-- THE TIED CARD OF 'revetmentlaw.ModeChanges'. -/
def modeChangesCard : Claim7 := { stood := { row := modeChangesRow, standIns := [], harness := (true, "a9bca1065ff446352bdc3a168b0553f6b108740f6d6f4f6821007e04bfbe8f93"), looks := true }, kinds := [], alts := [], laidByText := true, laidKinds := [.data, .handle, .pinned], laidTests := true, laidLooks := .later }
def ModeChangesCardSaid : Prop := Claim7.holds Tryd.pinned (.plain (OpenSpec.ofChange modeChangesSpec)) modeChangesCard

/-- THE TIED CARD OF 'revetmentlaw.PaxRecords'. -/
def paxRecordsCard : Claim7 := { stood := { row := paxRecordsRow, standIns := [], harness := (true, "a9bca1065ff446352bdc3a168b0553f6b108740f6d6f4f6821007e04bfbe8f93"), looks := true }, kinds := [], alts := [], laidByText := true, laidKinds := [.data, .data, .data, .handle], laidTests := true, laidLooks := .later }
def PaxRecordsCardSaid : Prop := Claim7.holds Tryd.pinned (.plain (OpenSpec.ofChange paxRecordsSpec)) paxRecordsCard

/-- THE TIED CARD OF 'revetmentlaw.PaxWrites'. -/
def paxWritesCard : Claim7 := { stood := { row := paxWritesRow, standIns := [], harness := (true, "a9bca1065ff446352bdc3a168b0553f6b108740f6d6f4f6821007e04bfbe8f93"), looks := true }, kinds := [], alts := [], laidByText := true, laidKinds := [.data, .data, .data, .handle], laidTests := true, laidLooks := .later }
def PaxWritesCardSaid : Prop := Claim7.holds Tryd.pinned (.plain (OpenSpec.ofChange paxWritesSpec)) paxWritesCard

/-- THE TIED CARD OF 'revetmentlaw.StampTexts'. -/
def stampTextsCard : Claim7 := { stood := { row := stampTextsRow, standIns := [], harness := (true, "a9bca1065ff446352bdc3a168b0553f6b108740f6d6f4f6821007e04bfbe8f93"), looks := true }, kinds := [], alts := [], laidByText := true, laidKinds := [.data, .data, .data, .data, .handle, .pinned], laidTests := true, laidLooks := .later }
def StampTextsCardSaid : Prop := Claim7.holds Tryd.pinned (.plain (OpenSpec.ofChange stampTextsSpec)) stampTextsCard

/-- THE TIED CARD OF 'revetmentlaw.HeadWrites'. -/
def headWritesCard : Claim7 := { stood := { row := headWritesRow, standIns := [], harness := (true, "a9bca1065ff446352bdc3a168b0553f6b108740f6d6f4f6821007e04bfbe8f93"), looks := true }, kinds := [], alts := [], laidByText := true, laidKinds := [.data, .data, .data, .handle], laidTests := true, laidLooks := .later }
def HeadWritesCardSaid : Prop := Claim7.holds Tryd.pinned (.plain (OpenSpec.ofChange headWritesSpec)) headWritesCard

/-- THE SECOND FORM's CARD OF 'revetmentlaw.HoleLays'. -/
def holeLaysUptoCard : Claim7 := { stood := { row := holeLaysUptoRow, standIns := [], harness := (true, "a9bca1065ff446352bdc3a168b0553f6b108740f6d6f4f6821007e04bfbe8f93"), looks := true }, kinds := [], alts := [], laidByText := true, laidKinds := [.handle], laidTests := true, laidLooks := .later }
def HoleLaysUptoCardSaid : Prop := Claim7.holds Tryd.pinned (.plain (OpenSpec.upto holeLaysSpec)) holeLaysUptoCard

/-- THE SECOND FORM's CARD OF 'revetmentlaw.AlterLasts'. -/
def alterLastsUptoCard : Claim7 := { stood := { row := alterLastsUptoRow, standIns := [], harness := (true, "a9bca1065ff446352bdc3a168b0553f6b108740f6d6f4f6821007e04bfbe8f93"), looks := true }, kinds := [], alts := [], laidByText := true, laidKinds := [.data, .pinned], laidTests := true, laidLooks := .later }
def AlterLastsUptoCardSaid : Prop := Claim7.holds Tryd.pinned (.plain (OpenSpec.upto alterLastsSpec)) alterLastsUptoCard

/-- THE SECOND FORM's CARD OF 'revetmentlaw.HoleFinds'. -/
def holeFindsUptoCard : Claim7 := { stood := { row := holeFindsUptoRow, standIns := [], harness := (true, "a9bca1065ff446352bdc3a168b0553f6b108740f6d6f4f6821007e04bfbe8f93"), looks := true }, kinds := [], alts := [], laidByText := true, laidKinds := [.data, .handle, .pinned], laidTests := true, laidLooks := .later }
def HoleFindsUptoCardSaid : Prop := Claim7.holds Tryd.pinned (.plain (OpenSpec.upto holeFindsSpec)) holeFindsUptoCard

/-- THE SECOND FORM's CARD OF 'revetmentlaw.ModeReads'. -/
def modeReadsUptoCard : Claim7 := { stood := { row := modeReadsUptoRow, standIns := [], harness := (true, "a9bca1065ff446352bdc3a168b0553f6b108740f6d6f4f6821007e04bfbe8f93"), looks := true }, kinds := [], alts := [], laidByText := true, laidKinds := [.data, .handle, .pinned, .pinned], laidTests := true, laidLooks := .later }
def ModeReadsUptoCardSaid : Prop := Claim7.holds Tryd.pinned (.plain (OpenSpec.upto modeReadsSpec)) modeReadsUptoCard

/-- THE SECOND FORM's CARD OF 'revetmentlaw.ModeTexts'. -/
def modeTextsUptoCard : Claim7 := { stood := { row := modeTextsUptoRow, standIns := [], harness := (true, "a9bca1065ff446352bdc3a168b0553f6b108740f6d6f4f6821007e04bfbe8f93"), looks := true }, kinds := [], alts := [], laidByText := true, laidKinds := [.data, .pinned, .pinned], laidTests := true, laidLooks := .later }
def ModeTextsUptoCardSaid : Prop := Claim7.holds Tryd.pinned (.plain (OpenSpec.upto modeTextsSpec)) modeTextsUptoCard

/-- THE SECOND FORM's CARD OF 'revetmentlaw.GlobMatches'. -/
def globMatchesUptoCard : Claim7 := { stood := { row := globMatchesUptoRow, standIns := [], harness := (true, "a9bca1065ff446352bdc3a168b0553f6b108740f6d6f4f6821007e04bfbe8f93"), looks := true }, kinds := [], alts := [], laidByText := true, laidKinds := [.handle], laidTests := true, laidLooks := .later }
def GlobMatchesUptoCardSaid : Prop := Claim7.holds Tryd.pinned (.plain (OpenSpec.upto globMatchesSpec)) globMatchesUptoCard

/-- THE SECOND FORM's CARD OF 'revetmentlaw.ModeChanges'. -/
def modeChangesUptoCard : Claim7 := { stood := { row := modeChangesUptoRow, standIns := [], harness := (true, "a9bca1065ff446352bdc3a168b0553f6b108740f6d6f4f6821007e04bfbe8f93"), looks := true }, kinds := [], alts := [], laidByText := true, laidKinds := [.data, .handle, .pinned], laidTests := true, laidLooks := .later }
def ModeChangesUptoCardSaid : Prop := Claim7.holds Tryd.pinned (.plain (OpenSpec.upto modeChangesSpec)) modeChangesUptoCard

/-- THE SECOND FORM's CARD OF 'revetmentlaw.PaxRecords'. -/
def paxRecordsUptoCard : Claim7 := { stood := { row := paxRecordsUptoRow, standIns := [], harness := (true, "a9bca1065ff446352bdc3a168b0553f6b108740f6d6f4f6821007e04bfbe8f93"), looks := true }, kinds := [], alts := [], laidByText := true, laidKinds := [.data, .data, .data, .handle], laidTests := true, laidLooks := .later }
def PaxRecordsUptoCardSaid : Prop := Claim7.holds Tryd.pinned (.plain (OpenSpec.upto paxRecordsSpec)) paxRecordsUptoCard

/-- THE SECOND FORM's CARD OF 'revetmentlaw.PaxWrites'. -/
def paxWritesUptoCard : Claim7 := { stood := { row := paxWritesUptoRow, standIns := [], harness := (true, "a9bca1065ff446352bdc3a168b0553f6b108740f6d6f4f6821007e04bfbe8f93"), looks := true }, kinds := [], alts := [], laidByText := true, laidKinds := [.data, .data, .data, .handle], laidTests := true, laidLooks := .later }
def PaxWritesUptoCardSaid : Prop := Claim7.holds Tryd.pinned (.plain (OpenSpec.upto paxWritesSpec)) paxWritesUptoCard

/-- THE SECOND FORM's CARD OF 'revetmentlaw.StampTexts'. -/
def stampTextsUptoCard : Claim7 := { stood := { row := stampTextsUptoRow, standIns := [], harness := (true, "a9bca1065ff446352bdc3a168b0553f6b108740f6d6f4f6821007e04bfbe8f93"), looks := true }, kinds := [], alts := [], laidByText := true, laidKinds := [.data, .data, .data, .data, .handle, .pinned], laidTests := true, laidLooks := .later }
def StampTextsUptoCardSaid : Prop := Claim7.holds Tryd.pinned (.plain (OpenSpec.upto stampTextsSpec)) stampTextsUptoCard

/-- THE SECOND FORM's CARD OF 'revetmentlaw.HeadWrites'. -/
def headWritesUptoCard : Claim7 := { stood := { row := headWritesUptoRow, standIns := [], harness := (true, "a9bca1065ff446352bdc3a168b0553f6b108740f6d6f4f6821007e04bfbe8f93"), looks := true }, kinds := [], alts := [], laidByText := true, laidKinds := [.data, .data, .data, .handle], laidTests := true, laidLooks := .later }
def HeadWritesUptoCardSaid : Prop := Claim7.holds Tryd.pinned (.plain (OpenSpec.upto headWritesSpec)) headWritesUptoCard
end Rows
end Go.Proofs.YtedcibjnnihhfaaDoor
