/-
  DERIVED. GIVEN WITH THE SEED: THE CARDS: each row of YtlinhilcjefgmaaDoorRows.lean that lists a variable, with what it lists TIED to the program's text (the seventh form; the later family's looks); each row that meets fmt, with fmt's text TOLD by the authors' own Lean function (tested against real Go, not proved from fmt's source: count such statements apart). THE CARD IS WHAT COUNTS. Prove the row's statement (the work); the ties are given (YtlinhilcjefgmaaDoorTie.lean); close each card by the builder's one call (the guide's Derived/Test/ToyasCard.lean, 'card_holds'). Laid BY PROGRAM, IN A SANDBOX (cutbox-door.mjs). By AI agents, Wed Nov 11 2026. No macro, syntax, notation, axiom, sorry.
-/
import Derived.Test.YtlinhilcjefgmaaDoorRows
import GoSem.ClaimSeven
namespace Go.Proofs.YtlinhilcjefgmaaDoor
namespace Rows

/-- THE TIED CARD OF 'revetmentlaw.NumberReads'. -/
def numberReadsCard : Claim7 := { stood := { row := numberReadsRow, standIns := [], harness := (true, "33062633a7957d262d2c096cf266562f1f074dc8dd16c3c3267e075ba0b756db"), looks := true }, kinds := [], alts := [], laidByText := true, laidKinds := [.data, .handle, .pinned], laidTests := true, laidLooks := .later }
def NumberReadsCardSaid : Prop := Claim7.holds Tryd.pinned (.plain (OpenSpec.ofChange numberReadsSpec)) numberReadsCard

/-- THE TIED CARD OF 'revetmentlaw.BlockRights'. -/
def blockRightsCard : Claim7 := { stood := { row := blockRightsRow, standIns := [], harness := (true, "33062633a7957d262d2c096cf266562f1f074dc8dd16c3c3267e075ba0b756db"), looks := true }, kinds := [], alts := [], laidByText := true, laidKinds := [.data, .pinned], laidTests := true, laidLooks := .later }
def BlockRightsCardSaid : Prop := Claim7.holds Tryd.pinned (.plain (OpenSpec.ofChange blockRightsSpec)) blockRightsCard

/-- THE TIED CARD OF 'revetmentlaw.HoleLays'. -/
def holeLaysCard : Claim7 := { stood := { row := holeLaysRow, standIns := [], harness := (true, "33062633a7957d262d2c096cf266562f1f074dc8dd16c3c3267e075ba0b756db"), looks := true }, kinds := [], alts := [], laidByText := true, laidKinds := [.handle], laidTests := true, laidLooks := .later }
def HoleLaysCardSaid : Prop := Claim7.holds Tryd.pinned (.plain (OpenSpec.ofChange holeLaysSpec)) holeLaysCard

/-- THE TIED CARD OF 'revetmentlaw.AlterLasts'. -/
def alterLastsCard : Claim7 := { stood := { row := alterLastsRow, standIns := [], harness := (true, "33062633a7957d262d2c096cf266562f1f074dc8dd16c3c3267e075ba0b756db"), looks := true }, kinds := [], alts := [], laidByText := true, laidKinds := [.data, .pinned], laidTests := true, laidLooks := .later }
def AlterLastsCardSaid : Prop := Claim7.holds Tryd.pinned (.plain (OpenSpec.ofChange alterLastsSpec)) alterLastsCard

/-- THE TIED CARD OF 'revetmentlaw.HoleFinds'. -/
def holeFindsCard : Claim7 := { stood := { row := holeFindsRow, standIns := [], harness := (true, "33062633a7957d262d2c096cf266562f1f074dc8dd16c3c3267e075ba0b756db"), looks := true }, kinds := [], alts := [], laidByText := true, laidKinds := [.data, .handle, .pinned], laidTests := true, laidLooks := .later }
def HoleFindsCardSaid : Prop := Claim7.holds Tryd.pinned (.plain (OpenSpec.ofChange holeFindsSpec)) holeFindsCard

/-- THE TIED CARD OF 'revetmentlaw.ModeReads'. -/
def modeReadsCard : Claim7 := { stood := { row := modeReadsRow, standIns := [], harness := (true, "33062633a7957d262d2c096cf266562f1f074dc8dd16c3c3267e075ba0b756db"), looks := true }, kinds := [], alts := [], laidByText := true, laidKinds := [.data, .handle, .pinned, .pinned], laidTests := true, laidLooks := .later }
def ModeReadsCardSaid : Prop := Claim7.holds Tryd.pinned (.plain (OpenSpec.ofChange modeReadsSpec)) modeReadsCard

/-- THE TIED CARD OF 'revetmentlaw.ModeTexts'. -/
def modeTextsCard : Claim7 := { stood := { row := modeTextsRow, standIns := [], harness := (true, "33062633a7957d262d2c096cf266562f1f074dc8dd16c3c3267e075ba0b756db"), looks := true }, kinds := [], alts := [], laidByText := true, laidKinds := [.data, .pinned, .pinned], laidTests := true, laidLooks := .later }
def ModeTextsCardSaid : Prop := Claim7.holds Tryd.pinned (.plain (OpenSpec.ofChange modeTextsSpec)) modeTextsCard

/-- THE TIED CARD OF 'revetmentlaw.GlobMatches'. -/
def globMatchesCard : Claim7 := { stood := { row := globMatchesRow, standIns := [], harness := (true, "33062633a7957d262d2c096cf266562f1f074dc8dd16c3c3267e075ba0b756db"), looks := true }, kinds := [], alts := [], laidByText := true, laidKinds := [.handle], laidTests := true, laidLooks := .later }
def GlobMatchesCardSaid : Prop := Claim7.holds Tryd.pinned (.plain (OpenSpec.ofChange globMatchesSpec)) globMatchesCard

/-- THE TIED CARD OF 'revetmentlaw.ModeChanges'. -/
def modeChangesCard : Claim7 := { stood := { row := modeChangesRow, standIns := [], harness := (true, "33062633a7957d262d2c096cf266562f1f074dc8dd16c3c3267e075ba0b756db"), looks := true }, kinds := [], alts := [], laidByText := true, laidKinds := [.data, .handle, .pinned], laidTests := true, laidLooks := .later }
def ModeChangesCardSaid : Prop := Claim7.holds Tryd.pinned (.plain (OpenSpec.ofChange modeChangesSpec)) modeChangesCard

/-- THE TIED CARD OF 'revetmentlaw.NumberOctal'. -/
def numberOctalCard : Claim7 := { stood := { row := numberOctalRow, standIns := [], harness := (true, "33062633a7957d262d2c096cf266562f1f074dc8dd16c3c3267e075ba0b756db"), looks := true }, kinds := [], alts := [], laidByText := true, laidKinds := [.data, .data, .data, .handle], laidTests := true, laidLooks := .later }
def NumberOctalCardSaid : Prop := Claim7.holds Tryd.pinned (.plain (OpenSpec.ofChange numberOctalSpec)) numberOctalCard

/-- THE TIED CARD OF 'revetmentlaw.NumberWrites'. -/
def numberWritesCard : Claim7 := { stood := { row := numberWritesRow, standIns := [], harness := (true, "33062633a7957d262d2c096cf266562f1f074dc8dd16c3c3267e075ba0b756db"), looks := true }, kinds := [], alts := [], laidByText := true, laidKinds := [.data, .data, .data, .handle], laidTests := true, laidLooks := .later }
def NumberWritesCardSaid : Prop := Claim7.holds Tryd.pinned (.plain (OpenSpec.ofChange numberWritesSpec)) numberWritesCard

/-- THE TIED CARD OF 'revetmentlaw.BlockSeals'. -/
def blockSealsCard : Claim7 := { stood := { row := blockSealsRow, standIns := [], harness := (true, "33062633a7957d262d2c096cf266562f1f074dc8dd16c3c3267e075ba0b756db"), looks := true }, kinds := [], alts := [], laidByText := true, laidKinds := [.data, .data, .data, .handle], laidTests := true, laidLooks := .later }
def BlockSealsCardSaid : Prop := Claim7.holds Tryd.pinned (.plain (OpenSpec.ofChange blockSealsSpec)) blockSealsCard

/-- THE SECOND FORM's CARD OF 'revetmentlaw.NumberReads'. -/
def numberReadsUptoCard : Claim7 := { stood := { row := numberReadsUptoRow, standIns := [], harness := (true, "33062633a7957d262d2c096cf266562f1f074dc8dd16c3c3267e075ba0b756db"), looks := true }, kinds := [], alts := [], laidByText := true, laidKinds := [.data, .handle, .pinned], laidTests := true, laidLooks := .later }
def NumberReadsUptoCardSaid : Prop := Claim7.holds Tryd.pinned (.plain (OpenSpec.upto numberReadsSpec)) numberReadsUptoCard

/-- THE SECOND FORM's CARD OF 'revetmentlaw.BlockRights'. -/
def blockRightsUptoCard : Claim7 := { stood := { row := blockRightsUptoRow, standIns := [], harness := (true, "33062633a7957d262d2c096cf266562f1f074dc8dd16c3c3267e075ba0b756db"), looks := true }, kinds := [], alts := [], laidByText := true, laidKinds := [.data, .pinned], laidTests := true, laidLooks := .later }
def BlockRightsUptoCardSaid : Prop := Claim7.holds Tryd.pinned (.plain (OpenSpec.upto blockRightsSpec)) blockRightsUptoCard

/-- THE SECOND FORM's CARD OF 'revetmentlaw.HoleLays'. -/
def holeLaysUptoCard : Claim7 := { stood := { row := holeLaysUptoRow, standIns := [], harness := (true, "33062633a7957d262d2c096cf266562f1f074dc8dd16c3c3267e075ba0b756db"), looks := true }, kinds := [], alts := [], laidByText := true, laidKinds := [.handle], laidTests := true, laidLooks := .later }
def HoleLaysUptoCardSaid : Prop := Claim7.holds Tryd.pinned (.plain (OpenSpec.upto holeLaysSpec)) holeLaysUptoCard

/-- THE SECOND FORM's CARD OF 'revetmentlaw.AlterLasts'. -/
def alterLastsUptoCard : Claim7 := { stood := { row := alterLastsUptoRow, standIns := [], harness := (true, "33062633a7957d262d2c096cf266562f1f074dc8dd16c3c3267e075ba0b756db"), looks := true }, kinds := [], alts := [], laidByText := true, laidKinds := [.data, .pinned], laidTests := true, laidLooks := .later }
def AlterLastsUptoCardSaid : Prop := Claim7.holds Tryd.pinned (.plain (OpenSpec.upto alterLastsSpec)) alterLastsUptoCard

/-- THE SECOND FORM's CARD OF 'revetmentlaw.HoleFinds'. -/
def holeFindsUptoCard : Claim7 := { stood := { row := holeFindsUptoRow, standIns := [], harness := (true, "33062633a7957d262d2c096cf266562f1f074dc8dd16c3c3267e075ba0b756db"), looks := true }, kinds := [], alts := [], laidByText := true, laidKinds := [.data, .handle, .pinned], laidTests := true, laidLooks := .later }
def HoleFindsUptoCardSaid : Prop := Claim7.holds Tryd.pinned (.plain (OpenSpec.upto holeFindsSpec)) holeFindsUptoCard

/-- THE SECOND FORM's CARD OF 'revetmentlaw.ModeReads'. -/
def modeReadsUptoCard : Claim7 := { stood := { row := modeReadsUptoRow, standIns := [], harness := (true, "33062633a7957d262d2c096cf266562f1f074dc8dd16c3c3267e075ba0b756db"), looks := true }, kinds := [], alts := [], laidByText := true, laidKinds := [.data, .handle, .pinned, .pinned], laidTests := true, laidLooks := .later }
def ModeReadsUptoCardSaid : Prop := Claim7.holds Tryd.pinned (.plain (OpenSpec.upto modeReadsSpec)) modeReadsUptoCard

/-- THE SECOND FORM's CARD OF 'revetmentlaw.ModeTexts'. -/
def modeTextsUptoCard : Claim7 := { stood := { row := modeTextsUptoRow, standIns := [], harness := (true, "33062633a7957d262d2c096cf266562f1f074dc8dd16c3c3267e075ba0b756db"), looks := true }, kinds := [], alts := [], laidByText := true, laidKinds := [.data, .pinned, .pinned], laidTests := true, laidLooks := .later }
def ModeTextsUptoCardSaid : Prop := Claim7.holds Tryd.pinned (.plain (OpenSpec.upto modeTextsSpec)) modeTextsUptoCard

/-- THE SECOND FORM's CARD OF 'revetmentlaw.GlobMatches'. -/
def globMatchesUptoCard : Claim7 := { stood := { row := globMatchesUptoRow, standIns := [], harness := (true, "33062633a7957d262d2c096cf266562f1f074dc8dd16c3c3267e075ba0b756db"), looks := true }, kinds := [], alts := [], laidByText := true, laidKinds := [.handle], laidTests := true, laidLooks := .later }
def GlobMatchesUptoCardSaid : Prop := Claim7.holds Tryd.pinned (.plain (OpenSpec.upto globMatchesSpec)) globMatchesUptoCard

/-- THE SECOND FORM's CARD OF 'revetmentlaw.ModeChanges'. -/
def modeChangesUptoCard : Claim7 := { stood := { row := modeChangesUptoRow, standIns := [], harness := (true, "33062633a7957d262d2c096cf266562f1f074dc8dd16c3c3267e075ba0b756db"), looks := true }, kinds := [], alts := [], laidByText := true, laidKinds := [.data, .handle, .pinned], laidTests := true, laidLooks := .later }
def ModeChangesUptoCardSaid : Prop := Claim7.holds Tryd.pinned (.plain (OpenSpec.upto modeChangesSpec)) modeChangesUptoCard

/-- THE SECOND FORM's CARD OF 'revetmentlaw.NumberOctal'. -/
def numberOctalUptoCard : Claim7 := { stood := { row := numberOctalUptoRow, standIns := [], harness := (true, "33062633a7957d262d2c096cf266562f1f074dc8dd16c3c3267e075ba0b756db"), looks := true }, kinds := [], alts := [], laidByText := true, laidKinds := [.data, .data, .data, .handle], laidTests := true, laidLooks := .later }
def NumberOctalUptoCardSaid : Prop := Claim7.holds Tryd.pinned (.plain (OpenSpec.upto numberOctalSpec)) numberOctalUptoCard

/-- THE SECOND FORM's CARD OF 'revetmentlaw.NumberWrites'. -/
def numberWritesUptoCard : Claim7 := { stood := { row := numberWritesUptoRow, standIns := [], harness := (true, "33062633a7957d262d2c096cf266562f1f074dc8dd16c3c3267e075ba0b756db"), looks := true }, kinds := [], alts := [], laidByText := true, laidKinds := [.data, .data, .data, .handle], laidTests := true, laidLooks := .later }
def NumberWritesUptoCardSaid : Prop := Claim7.holds Tryd.pinned (.plain (OpenSpec.upto numberWritesSpec)) numberWritesUptoCard

/-- THE SECOND FORM's CARD OF 'revetmentlaw.BlockSeals'. -/
def blockSealsUptoCard : Claim7 := { stood := { row := blockSealsUptoRow, standIns := [], harness := (true, "33062633a7957d262d2c096cf266562f1f074dc8dd16c3c3267e075ba0b756db"), looks := true }, kinds := [], alts := [], laidByText := true, laidKinds := [.data, .data, .data, .handle], laidTests := true, laidLooks := .later }
def BlockSealsUptoCardSaid : Prop := Claim7.holds Tryd.pinned (.plain (OpenSpec.upto blockSealsSpec)) blockSealsUptoCard
end Rows
end Go.Proofs.YtlinhilcjefgmaaDoor
