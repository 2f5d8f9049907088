/-
  DERIVED. GIVEN WITH THE SEED: THE CARDS: each row of YtbofobakphlpbaaGreatDoorRows.lean that lists a variable, with what it lists TIED to the program's text (the seventh form; the later family's looks); each row that meets fmt, with fmt's text TOLD by the authors' own Lean function (tested against real Go, not proved from fmt's source: count such statements apart). THE CARD IS WHAT COUNTS. Prove the row's statement (the work); the ties are given (YtbofobakphlpbaaGreatDoorTie.lean); close each card by the builder's one call (the guide's Derived/Test/ToyasCard.lean, 'card_holds'). Laid BY PROGRAM, IN A SANDBOX (cutbox-door.mjs). By AI agents, Wed Nov 11 2026. No macro, syntax, notation, axiom, sorry.
-/
import Derived.Test.YtbofobakphlpbaaGreatDoorRows
import GoSem.ClaimSeven
namespace Go.Proofs.YtbofobakphlpbaaGreatDoor
namespace Rows

/-- THE TIED CARD OF 'revetmentlaw.VolumeSplits'. -/
def volumeSplitsCard : Claim7 := { stood := { row := volumeSplitsRow, standIns := [], harness := (true, "39817d1d8350b12abcd58d34cf01c9ef4081ada8932d98e1d6b9b90fe7beafbb"), looks := true }, kinds := [], alts := [], laidByText := true, laidKinds := [.data, .data, .data, .handle], laidTests := true, laidLooks := .later }
def VolumeSplitsCardSaid : Prop := Claim7.holds Tryz.pinned (.plain (OpenSpec.ofChange volumeSplitsSpec)) volumeSplitsCard

/-- THE TIED CARD OF 'revetmentlaw.HeadReads'. -/
def headReadsCard : Claim7 := { stood := { row := headReadsRow, standIns := [], harness := (true, "39817d1d8350b12abcd58d34cf01c9ef4081ada8932d98e1d6b9b90fe7beafbb"), looks := true }, kinds := [], alts := [], laidByText := true, laidKinds := [.data, .handle, .pinned], laidTests := true, laidLooks := .later }
def HeadReadsCardSaid : Prop := Claim7.holds Tryz.pinned (.plain (OpenSpec.ofChange headReadsSpec)) headReadsCard

/-- THE TIED CARD OF 'revetmentlaw.VolumeJoins'. -/
def volumeJoinsCard : Claim7 := { stood := { row := volumeJoinsRow, standIns := [], harness := (true, "39817d1d8350b12abcd58d34cf01c9ef4081ada8932d98e1d6b9b90fe7beafbb"), looks := true }, kinds := [], alts := [], laidByText := true, laidKinds := [.data, .handle, .pinned], laidTests := true, laidLooks := .later }
def VolumeJoinsCardSaid : Prop := Claim7.holds Tryz.pinned (.plain (OpenSpec.ofChange volumeJoinsSpec)) volumeJoinsCard

/-- THE TIED CARD OF 'revetmentlaw.StampReads'. -/
def stampReadsCard : Claim7 := { stood := { row := stampReadsRow, standIns := [], harness := (true, "39817d1d8350b12abcd58d34cf01c9ef4081ada8932d98e1d6b9b90fe7beafbb"), looks := true }, kinds := [], alts := [], laidByText := true, laidKinds := [.data, .data, .data, .data, .handle, .sentinel, .sentinel, .pinned], laidTests := true, laidLooks := .later }
def StampReadsCardSaid : Prop := Claim7.holds Tryz.pinned (.plain (OpenSpec.ofChange stampReadsSpec)) stampReadsCard

/-- THE SECOND FORM's CARD OF 'revetmentlaw.VolumeSplits'. -/
def volumeSplitsUptoCard : Claim7 := { stood := { row := volumeSplitsUptoRow, standIns := [], harness := (true, "39817d1d8350b12abcd58d34cf01c9ef4081ada8932d98e1d6b9b90fe7beafbb"), looks := true }, kinds := [], alts := [], laidByText := true, laidKinds := [.data, .data, .data, .handle], laidTests := true, laidLooks := .later }
def VolumeSplitsUptoCardSaid : Prop := Claim7.holds Tryz.pinned (.plain (OpenSpec.upto volumeSplitsSpec)) volumeSplitsUptoCard

/-- THE SECOND FORM's CARD OF 'revetmentlaw.HeadReads'. -/
def headReadsUptoCard : Claim7 := { stood := { row := headReadsUptoRow, standIns := [], harness := (true, "39817d1d8350b12abcd58d34cf01c9ef4081ada8932d98e1d6b9b90fe7beafbb"), looks := true }, kinds := [], alts := [], laidByText := true, laidKinds := [.data, .handle, .pinned], laidTests := true, laidLooks := .later }
def HeadReadsUptoCardSaid : Prop := Claim7.holds Tryz.pinned (.plain (OpenSpec.upto headReadsSpec)) headReadsUptoCard

/-- THE SECOND FORM's CARD OF 'revetmentlaw.VolumeJoins'. -/
def volumeJoinsUptoCard : Claim7 := { stood := { row := volumeJoinsUptoRow, standIns := [], harness := (true, "39817d1d8350b12abcd58d34cf01c9ef4081ada8932d98e1d6b9b90fe7beafbb"), looks := true }, kinds := [], alts := [], laidByText := true, laidKinds := [.data, .handle, .pinned], laidTests := true, laidLooks := .later }
def VolumeJoinsUptoCardSaid : Prop := Claim7.holds Tryz.pinned (.plain (OpenSpec.upto volumeJoinsSpec)) volumeJoinsUptoCard

/-- THE SECOND FORM's CARD OF 'revetmentlaw.StampReads'. -/
def stampReadsUptoCard : Claim7 := { stood := { row := stampReadsUptoRow, standIns := [], harness := (true, "39817d1d8350b12abcd58d34cf01c9ef4081ada8932d98e1d6b9b90fe7beafbb"), looks := true }, kinds := [], alts := [], laidByText := true, laidKinds := [.data, .data, .data, .data, .handle, .sentinel, .sentinel, .pinned], laidTests := true, laidLooks := .later }
def StampReadsUptoCardSaid : Prop := Claim7.holds Tryz.pinned (.plain (OpenSpec.upto stampReadsSpec)) stampReadsUptoCard
end Rows
end Go.Proofs.YtbofobakphlpbaaGreatDoor
