/-
  DERIVED. GIVEN WITH THE SEED: THE CARDS: each row of YtnbcbipigiopbaaGreatDoorRows.lean that lists a variable, with what it lists TIED to the program's text (the seventh form; the later family's looks); each row that meets fmt, with fmt's text TOLD by the authors' own Lean function (tested against real Go, not proved from fmt's source: count such statements apart). THE CARD IS WHAT COUNTS. Prove the row's statement (the work); the ties are given (YtnbcbipigiopbaaGreatDoorTie.lean); close each card by the builder's one call (the guide's Derived/Test/ToyasCard.lean, 'card_holds'). Laid BY PROGRAM, IN A SANDBOX (cutbox-door.mjs). By AI agents, Wed Nov 11 2026. No macro, syntax, notation, axiom, sorry.
-/
import Derived.Test.YtnbcbipigiopbaaGreatDoorRows
import GoSem.ClaimSeven
namespace Go.Proofs.YtnbcbipigiopbaaGreatDoor
namespace Rows

/-- THE TIED CARD OF 'revetmentlaw.MemberWrites'. -/
def memberWritesCard : Claim7 := { stood := { row := memberWritesRow, standIns := [], harness := (true, "cb6102a496e8542ca5ac2c44dcefdeb73dfc02d5252815ac706361d6ad5c1ea8"), looks := true }, kinds := [], alts := [], laidByText := true, laidKinds := [.data, .data, .data, .data, .handle, .pinned], laidTests := true, laidLooks := .later }
def MemberWritesCardSaid : Prop := Claim7.holds Tryz.pinned (.plain (OpenSpec.ofChange memberWritesSpec)) memberWritesCard

/-- THE TIED CARD OF 'revetmentlaw.MemberGnu'. -/
def memberGnuCard : Claim7 := { stood := { row := memberGnuRow, standIns := [], harness := (true, "cb6102a496e8542ca5ac2c44dcefdeb73dfc02d5252815ac706361d6ad5c1ea8"), looks := true }, kinds := [], alts := [], laidByText := true, laidKinds := [.data, .data, .data, .data, .handle, .pinned], laidTests := true, laidLooks := .later }
def MemberGnuCardSaid : Prop := Claim7.holds Tryz.pinned (.plain (OpenSpec.ofChange memberGnuSpec)) memberGnuCard

/-- THE TIED CARD OF 'revetmentlaw.MemberPax'. -/
def memberPaxCard : Claim7 := { stood := { row := memberPaxRow, standIns := [], harness := (true, "cb6102a496e8542ca5ac2c44dcefdeb73dfc02d5252815ac706361d6ad5c1ea8"), looks := true }, kinds := [], alts := [], laidByText := true, laidKinds := [.data, .data, .data, .data, .handle, .pinned], laidTests := true, laidLooks := .later }
def MemberPaxCardSaid : Prop := Claim7.holds Tryz.pinned (.plain (OpenSpec.ofChange memberPaxSpec)) memberPaxCard

/-- THE TIED CARD OF 'revetmentlaw.StreamWrites'. -/
def streamWritesCard : Claim7 := { stood := { row := streamWritesRow, standIns := [], harness := (true, "cb6102a496e8542ca5ac2c44dcefdeb73dfc02d5252815ac706361d6ad5c1ea8"), looks := true }, kinds := [], alts := [], laidByText := true, laidKinds := [.data, .data, .data, .data, .handle, .pinned], laidTests := true, laidLooks := .later }
def StreamWritesCardSaid : Prop := Claim7.holds Tryz.pinned (.plain (OpenSpec.ofChange streamWritesSpec)) streamWritesCard

/-- THE TIED CARD OF 'revetmentlaw.VolumeJoins'. -/
def volumeJoinsCard : Claim7 := { stood := { row := volumeJoinsRow, standIns := [], harness := (true, "cb6102a496e8542ca5ac2c44dcefdeb73dfc02d5252815ac706361d6ad5c1ea8"), looks := true }, kinds := [], alts := [], laidByText := true, laidKinds := [.data, .handle, .pinned], laidTests := true, laidLooks := .later }
def VolumeJoinsCardSaid : Prop := Claim7.holds Tryz.pinned (.plain (OpenSpec.ofChange volumeJoinsSpec)) volumeJoinsCard

/-- THE SECOND FORM's CARD OF 'revetmentlaw.MemberWrites'. -/
def memberWritesUptoCard : Claim7 := { stood := { row := memberWritesUptoRow, standIns := [], harness := (true, "cb6102a496e8542ca5ac2c44dcefdeb73dfc02d5252815ac706361d6ad5c1ea8"), looks := true }, kinds := [], alts := [], laidByText := true, laidKinds := [.data, .data, .data, .data, .handle, .pinned], laidTests := true, laidLooks := .later }
def MemberWritesUptoCardSaid : Prop := Claim7.holds Tryz.pinned (.plain (OpenSpec.upto memberWritesSpec)) memberWritesUptoCard

/-- THE SECOND FORM's CARD OF 'revetmentlaw.MemberGnu'. -/
def memberGnuUptoCard : Claim7 := { stood := { row := memberGnuUptoRow, standIns := [], harness := (true, "cb6102a496e8542ca5ac2c44dcefdeb73dfc02d5252815ac706361d6ad5c1ea8"), looks := true }, kinds := [], alts := [], laidByText := true, laidKinds := [.data, .data, .data, .data, .handle, .pinned], laidTests := true, laidLooks := .later }
def MemberGnuUptoCardSaid : Prop := Claim7.holds Tryz.pinned (.plain (OpenSpec.upto memberGnuSpec)) memberGnuUptoCard

/-- THE SECOND FORM's CARD OF 'revetmentlaw.MemberPax'. -/
def memberPaxUptoCard : Claim7 := { stood := { row := memberPaxUptoRow, standIns := [], harness := (true, "cb6102a496e8542ca5ac2c44dcefdeb73dfc02d5252815ac706361d6ad5c1ea8"), looks := true }, kinds := [], alts := [], laidByText := true, laidKinds := [.data, .data, .data, .data, .handle, .pinned], laidTests := true, laidLooks := .later }
def MemberPaxUptoCardSaid : Prop := Claim7.holds Tryz.pinned (.plain (OpenSpec.upto memberPaxSpec)) memberPaxUptoCard

/-- THE SECOND FORM's CARD OF 'revetmentlaw.StreamWrites'. -/
def streamWritesUptoCard : Claim7 := { stood := { row := streamWritesUptoRow, standIns := [], harness := (true, "cb6102a496e8542ca5ac2c44dcefdeb73dfc02d5252815ac706361d6ad5c1ea8"), looks := true }, kinds := [], alts := [], laidByText := true, laidKinds := [.data, .data, .data, .data, .handle, .pinned], laidTests := true, laidLooks := .later }
def StreamWritesUptoCardSaid : Prop := Claim7.holds Tryz.pinned (.plain (OpenSpec.upto streamWritesSpec)) streamWritesUptoCard

/-- THE SECOND FORM's CARD OF 'revetmentlaw.VolumeJoins'. -/
def volumeJoinsUptoCard : Claim7 := { stood := { row := volumeJoinsUptoRow, standIns := [], harness := (true, "cb6102a496e8542ca5ac2c44dcefdeb73dfc02d5252815ac706361d6ad5c1ea8"), looks := true }, kinds := [], alts := [], laidByText := true, laidKinds := [.data, .handle, .pinned], laidTests := true, laidLooks := .later }
def VolumeJoinsUptoCardSaid : Prop := Claim7.holds Tryz.pinned (.plain (OpenSpec.upto volumeJoinsSpec)) volumeJoinsUptoCard
end Rows
end Go.Proofs.YtnbcbipigiopbaaGreatDoor
