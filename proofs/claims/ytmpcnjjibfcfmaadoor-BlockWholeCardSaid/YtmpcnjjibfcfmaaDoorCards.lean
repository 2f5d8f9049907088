/-
  DERIVED. GIVEN WITH THE SEED: THE CARDS: each row of YtmpcnjjibfcfmaaDoorRows.lean that lists a variable, with what it lists TIED to the program's text (the seventh form; the later family's looks); each row that meets fmt, with fmt's text TOLD by the authors' own Lean function (tested against real Go, not proved from fmt's source: count such statements apart). THE CARD IS WHAT COUNTS. Prove the row's statement (the work); the ties are given (YtmpcnjjibfcfmaaDoorTie.lean); close each card by the builder's one call (the guide's Derived/Test/ToyasCard.lean, 'card_holds'). Laid BY PROGRAM, IN A SANDBOX (cutbox-door.mjs). By AI agents, Wed Nov 11 2026. No macro, syntax, notation, axiom, sorry.
-/
import Derived.Test.YtmpcnjjibfcfmaaDoorRows
import GoSem.ClaimSeven
namespace Go.Proofs.YtmpcnjjibfcfmaaDoor
namespace Rows

/-- THE TIED CARD OF 'revetmentlaw.ModeTexts'. -/
def modeTextsCard : Claim7 := { stood := { row := modeTextsRow, standIns := [], harness := (true, "b8e7ff5ce64629ee468c2205a0be67fdb8163a9585721c4a7447563331d77ad5"), looks := true }, kinds := [], alts := [], laidByText := true, laidKinds := [.data, .pinned, .pinned], laidTests := true, laidLooks := .later }
def ModeTextsCardSaid : Prop := Claim7.holds Tryd.pinned (.plain (OpenSpec.ofChange modeTextsSpec)) modeTextsCard

/-- THE TIED CARD OF 'revetmentlaw.PathCleans'. -/
def pathCleansCard : Claim7 := { stood := { row := pathCleansRow, standIns := [], harness := (true, "b8e7ff5ce64629ee468c2205a0be67fdb8163a9585721c4a7447563331d77ad5"), looks := true }, kinds := [], alts := [], laidByText := true, laidKinds := [.data, .pinned], laidTests := true, laidLooks := .later }
def PathCleansCardSaid : Prop := Claim7.holds Tryd.pinned (.plain (OpenSpec.ofChange pathCleansSpec)) pathCleansCard

/-- THE TIED CARD OF 'revetmentlaw.PathRights'. -/
def pathRightsCard : Claim7 := { stood := { row := pathRightsRow, standIns := [], harness := (true, "b8e7ff5ce64629ee468c2205a0be67fdb8163a9585721c4a7447563331d77ad5"), looks := true }, kinds := [], alts := [], laidByText := true, laidKinds := [.data, .pinned], laidTests := true, laidLooks := .later }
def PathRightsCardSaid : Prop := Claim7.holds Tryd.pinned (.plain (OpenSpec.ofChange pathRightsSpec)) pathRightsCard

/-- THE TIED CARD OF 'revetmentlaw.HoleLays'. -/
def holeLaysCard : Claim7 := { stood := { row := holeLaysRow, standIns := [], harness := (true, "b8e7ff5ce64629ee468c2205a0be67fdb8163a9585721c4a7447563331d77ad5"), looks := true }, kinds := [], alts := [], laidByText := true, laidKinds := [.handle], laidTests := true, laidLooks := .later }
def HoleLaysCardSaid : Prop := Claim7.holds Tryd.pinned (.plain (OpenSpec.ofChange holeLaysSpec)) holeLaysCard

/-- THE TIED CARD OF 'revetmentlaw.AlterLasts'. -/
def alterLastsCard : Claim7 := { stood := { row := alterLastsRow, standIns := [], harness := (true, "b8e7ff5ce64629ee468c2205a0be67fdb8163a9585721c4a7447563331d77ad5"), looks := true }, kinds := [], alts := [], laidByText := true, laidKinds := [.data, .pinned], laidTests := true, laidLooks := .later }
def AlterLastsCardSaid : Prop := Claim7.holds Tryd.pinned (.plain (OpenSpec.ofChange alterLastsSpec)) alterLastsCard

/-- THE TIED CARD OF 'revetmentlaw.BlockRights'. -/
def blockRightsCard : Claim7 := { stood := { row := blockRightsRow, standIns := [], harness := (true, "b8e7ff5ce64629ee468c2205a0be67fdb8163a9585721c4a7447563331d77ad5"), looks := true }, kinds := [], alts := [], laidByText := true, laidKinds := [.data, .pinned], laidTests := true, laidLooks := .later }
def BlockRightsCardSaid : Prop := Claim7.holds Tryd.pinned (.plain (OpenSpec.ofChange blockRightsSpec)) blockRightsCard

/-- THE TIED CARD OF 'revetmentlaw.PathLeads'. -/
def pathLeadsCard : Claim7 := { stood := { row := pathLeadsRow, standIns := [], harness := (true, "b8e7ff5ce64629ee468c2205a0be67fdb8163a9585721c4a7447563331d77ad5"), looks := true }, kinds := [], alts := [], laidByText := true, laidKinds := [.data, .pinned], laidTests := true, laidLooks := .later }
def PathLeadsCardSaid : Prop := Claim7.holds Tryd.pinned (.plain (OpenSpec.ofChange pathLeadsSpec)) pathLeadsCard

/-- THE TIED CARD OF 'revetmentlaw.BlockWhole'. -/
def blockWholeCard : Claim7 := { stood := { row := blockWholeRow, standIns := [], harness := (true, "b8e7ff5ce64629ee468c2205a0be67fdb8163a9585721c4a7447563331d77ad5"), looks := true }, kinds := [], alts := [], laidByText := true, laidKinds := [.data, .pinned], laidTests := true, laidLooks := .later }
def BlockWholeCardSaid : Prop := Claim7.holds Tryd.pinned (.plain (OpenSpec.ofChange blockWholeSpec)) blockWholeCard

/-- THE TIED CARD OF 'revetmentlaw.PathLinks'. -/
def pathLinksCard : Claim7 := { stood := { row := pathLinksRow, standIns := [], harness := (true, "b8e7ff5ce64629ee468c2205a0be67fdb8163a9585721c4a7447563331d77ad5"), looks := true }, kinds := [], alts := [], laidByText := true, laidKinds := [.data, .pinned], laidTests := true, laidLooks := .later }
def PathLinksCardSaid : Prop := Claim7.holds Tryd.pinned (.plain (OpenSpec.ofChange pathLinksSpec)) pathLinksCard

/-- THE TIED CARD OF 'revetmentlaw.HoleFinds'. -/
def holeFindsCard : Claim7 := { stood := { row := holeFindsRow, standIns := [], harness := (true, "b8e7ff5ce64629ee468c2205a0be67fdb8163a9585721c4a7447563331d77ad5"), looks := true }, kinds := [], alts := [], laidByText := true, laidKinds := [.data, .handle, .pinned], laidTests := true, laidLooks := .later }
def HoleFindsCardSaid : Prop := Claim7.holds Tryd.pinned (.plain (OpenSpec.ofChange holeFindsSpec)) holeFindsCard

/-- THE TIED CARD OF 'revetmentlaw.NumberReads'. -/
def numberReadsCard : Claim7 := { stood := { row := numberReadsRow, standIns := [], harness := (true, "b8e7ff5ce64629ee468c2205a0be67fdb8163a9585721c4a7447563331d77ad5"), looks := true }, kinds := [], alts := [], laidByText := true, laidKinds := [.data, .handle, .pinned], laidTests := true, laidLooks := .later }
def NumberReadsCardSaid : Prop := Claim7.holds Tryd.pinned (.plain (OpenSpec.ofChange numberReadsSpec)) numberReadsCard

/-- THE TIED CARD OF 'revetmentlaw.ModeReads'. -/
def modeReadsCard : Claim7 := { stood := { row := modeReadsRow, standIns := [], harness := (true, "b8e7ff5ce64629ee468c2205a0be67fdb8163a9585721c4a7447563331d77ad5"), looks := true }, kinds := [], alts := [], laidByText := true, laidKinds := [.data, .handle, .pinned, .pinned], laidTests := true, laidLooks := .later }
def ModeReadsCardSaid : Prop := Claim7.holds Tryd.pinned (.plain (OpenSpec.ofChange modeReadsSpec)) modeReadsCard

/-- THE SECOND FORM's CARD OF 'revetmentlaw.ModeTexts'. -/
def modeTextsUptoCard : Claim7 := { stood := { row := modeTextsUptoRow, standIns := [], harness := (true, "b8e7ff5ce64629ee468c2205a0be67fdb8163a9585721c4a7447563331d77ad5"), looks := true }, kinds := [], alts := [], laidByText := true, laidKinds := [.data, .pinned, .pinned], laidTests := true, laidLooks := .later }
def ModeTextsUptoCardSaid : Prop := Claim7.holds Tryd.pinned (.plain (OpenSpec.upto modeTextsSpec)) modeTextsUptoCard

/-- THE SECOND FORM's CARD OF 'revetmentlaw.PathCleans'. -/
def pathCleansUptoCard : Claim7 := { stood := { row := pathCleansUptoRow, standIns := [], harness := (true, "b8e7ff5ce64629ee468c2205a0be67fdb8163a9585721c4a7447563331d77ad5"), looks := true }, kinds := [], alts := [], laidByText := true, laidKinds := [.data, .pinned], laidTests := true, laidLooks := .later }
def PathCleansUptoCardSaid : Prop := Claim7.holds Tryd.pinned (.plain (OpenSpec.upto pathCleansSpec)) pathCleansUptoCard

/-- THE SECOND FORM's CARD OF 'revetmentlaw.PathRights'. -/
def pathRightsUptoCard : Claim7 := { stood := { row := pathRightsUptoRow, standIns := [], harness := (true, "b8e7ff5ce64629ee468c2205a0be67fdb8163a9585721c4a7447563331d77ad5"), looks := true }, kinds := [], alts := [], laidByText := true, laidKinds := [.data, .pinned], laidTests := true, laidLooks := .later }
def PathRightsUptoCardSaid : Prop := Claim7.holds Tryd.pinned (.plain (OpenSpec.upto pathRightsSpec)) pathRightsUptoCard

/-- THE SECOND FORM's CARD OF 'revetmentlaw.HoleLays'. -/
def holeLaysUptoCard : Claim7 := { stood := { row := holeLaysUptoRow, standIns := [], harness := (true, "b8e7ff5ce64629ee468c2205a0be67fdb8163a9585721c4a7447563331d77ad5"), looks := true }, kinds := [], alts := [], laidByText := true, laidKinds := [.handle], laidTests := true, laidLooks := .later }
def HoleLaysUptoCardSaid : Prop := Claim7.holds Tryd.pinned (.plain (OpenSpec.upto holeLaysSpec)) holeLaysUptoCard

/-- THE SECOND FORM's CARD OF 'revetmentlaw.AlterLasts'. -/
def alterLastsUptoCard : Claim7 := { stood := { row := alterLastsUptoRow, standIns := [], harness := (true, "b8e7ff5ce64629ee468c2205a0be67fdb8163a9585721c4a7447563331d77ad5"), looks := true }, kinds := [], alts := [], laidByText := true, laidKinds := [.data, .pinned], laidTests := true, laidLooks := .later }
def AlterLastsUptoCardSaid : Prop := Claim7.holds Tryd.pinned (.plain (OpenSpec.upto alterLastsSpec)) alterLastsUptoCard

/-- THE SECOND FORM's CARD OF 'revetmentlaw.BlockRights'. -/
def blockRightsUptoCard : Claim7 := { stood := { row := blockRightsUptoRow, standIns := [], harness := (true, "b8e7ff5ce64629ee468c2205a0be67fdb8163a9585721c4a7447563331d77ad5"), looks := true }, kinds := [], alts := [], laidByText := true, laidKinds := [.data, .pinned], laidTests := true, laidLooks := .later }
def BlockRightsUptoCardSaid : Prop := Claim7.holds Tryd.pinned (.plain (OpenSpec.upto blockRightsSpec)) blockRightsUptoCard

/-- THE SECOND FORM's CARD OF 'revetmentlaw.PathLeads'. -/
def pathLeadsUptoCard : Claim7 := { stood := { row := pathLeadsUptoRow, standIns := [], harness := (true, "b8e7ff5ce64629ee468c2205a0be67fdb8163a9585721c4a7447563331d77ad5"), looks := true }, kinds := [], alts := [], laidByText := true, laidKinds := [.data, .pinned], laidTests := true, laidLooks := .later }
def PathLeadsUptoCardSaid : Prop := Claim7.holds Tryd.pinned (.plain (OpenSpec.upto pathLeadsSpec)) pathLeadsUptoCard

/-- THE SECOND FORM's CARD OF 'revetmentlaw.BlockWhole'. -/
def blockWholeUptoCard : Claim7 := { stood := { row := blockWholeUptoRow, standIns := [], harness := (true, "b8e7ff5ce64629ee468c2205a0be67fdb8163a9585721c4a7447563331d77ad5"), looks := true }, kinds := [], alts := [], laidByText := true, laidKinds := [.data, .pinned], laidTests := true, laidLooks := .later }
def BlockWholeUptoCardSaid : Prop := Claim7.holds Tryd.pinned (.plain (OpenSpec.upto blockWholeSpec)) blockWholeUptoCard

/-- THE SECOND FORM's CARD OF 'revetmentlaw.PathLinks'. -/
def pathLinksUptoCard : Claim7 := { stood := { row := pathLinksUptoRow, standIns := [], harness := (true, "b8e7ff5ce64629ee468c2205a0be67fdb8163a9585721c4a7447563331d77ad5"), looks := true }, kinds := [], alts := [], laidByText := true, laidKinds := [.data, .pinned], laidTests := true, laidLooks := .later }
def PathLinksUptoCardSaid : Prop := Claim7.holds Tryd.pinned (.plain (OpenSpec.upto pathLinksSpec)) pathLinksUptoCard

/-- THE SECOND FORM's CARD OF 'revetmentlaw.HoleFinds'. -/
def holeFindsUptoCard : Claim7 := { stood := { row := holeFindsUptoRow, standIns := [], harness := (true, "b8e7ff5ce64629ee468c2205a0be67fdb8163a9585721c4a7447563331d77ad5"), looks := true }, kinds := [], alts := [], laidByText := true, laidKinds := [.data, .handle, .pinned], laidTests := true, laidLooks := .later }
def HoleFindsUptoCardSaid : Prop := Claim7.holds Tryd.pinned (.plain (OpenSpec.upto holeFindsSpec)) holeFindsUptoCard

/-- THE SECOND FORM's CARD OF 'revetmentlaw.NumberReads'. -/
def numberReadsUptoCard : Claim7 := { stood := { row := numberReadsUptoRow, standIns := [], harness := (true, "b8e7ff5ce64629ee468c2205a0be67fdb8163a9585721c4a7447563331d77ad5"), looks := true }, kinds := [], alts := [], laidByText := true, laidKinds := [.data, .handle, .pinned], laidTests := true, laidLooks := .later }
def NumberReadsUptoCardSaid : Prop := Claim7.holds Tryd.pinned (.plain (OpenSpec.upto numberReadsSpec)) numberReadsUptoCard

/-- THE SECOND FORM's CARD OF 'revetmentlaw.ModeReads'. -/
def modeReadsUptoCard : Claim7 := { stood := { row := modeReadsUptoRow, standIns := [], harness := (true, "b8e7ff5ce64629ee468c2205a0be67fdb8163a9585721c4a7447563331d77ad5"), looks := true }, kinds := [], alts := [], laidByText := true, laidKinds := [.data, .handle, .pinned, .pinned], laidTests := true, laidLooks := .later }
def ModeReadsUptoCardSaid : Prop := Claim7.holds Tryd.pinned (.plain (OpenSpec.upto modeReadsSpec)) modeReadsUptoCard
end Rows
end Go.Proofs.YtmpcnjjibfcfmaaDoor
