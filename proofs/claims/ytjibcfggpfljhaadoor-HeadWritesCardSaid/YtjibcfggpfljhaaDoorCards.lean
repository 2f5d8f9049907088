/-
  DERIVED. GIVEN WITH THE SEED: THE CARDS: each row of YtjibcfggpfljhaaDoorRows.lean that lists a variable, with what it lists TIED to the program's text (the seventh form; the later family's looks); each row that meets fmt, with fmt's text TOLD by the authors' own Lean function (tested against real Go, not proved from fmt's source: count such statements apart). THE CARD IS WHAT COUNTS. Prove the row's statement (the work); the ties are given (YtjibcfggpfljhaaDoorTie.lean); close each card by the builder's one call (the guide's Derived/Test/ToyasCard.lean, 'card_holds'). Laid BY PROGRAM, IN A SANDBOX (cutbox-door.mjs). By AI agents, Wed Nov 11 2026. No macro, syntax, notation, axiom, sorry.
-/
import Derived.Test.YtjibcfggpfljhaaDoorRows
import GoSem.ClaimSeven
namespace Go.Proofs.YtjibcfggpfljhaaDoor
namespace Rows

/-- THE TIED CARD OF 'revetmentlaw.ModeChanges'. -/
def modeChangesCard : Claim7 := { stood := { row := modeChangesRow, standIns := [], harness := (true, "06e3b2707c890a13c50e10468e09e6d5d5dc5bae099cd57f863e72d7834c4030"), looks := true }, kinds := [], alts := [], laidByText := true, laidKinds := [.data, .handle, .pinned], laidTests := true, laidLooks := .later }
def ModeChangesCardSaid : Prop := Claim7.holds Tryd.pinned (.plain (OpenSpec.ofChange modeChangesSpec)) modeChangesCard

/-- THE TIED CARD OF 'revetmentlaw.HeadWrites'. -/
def headWritesCard : Claim7 := { stood := { row := headWritesRow, standIns := [], harness := (true, "06e3b2707c890a13c50e10468e09e6d5d5dc5bae099cd57f863e72d7834c4030"), looks := true }, kinds := [], alts := [], laidByText := true, laidKinds := [.data, .data, .data, .handle], laidTests := true, laidLooks := .later }
def HeadWritesCardSaid : Prop := Claim7.holds Tryd.pinned (.plain (OpenSpec.ofChange headWritesSpec)) headWritesCard

/-- THE SECOND FORM's CARD OF 'revetmentlaw.ModeChanges'. -/
def modeChangesUptoCard : Claim7 := { stood := { row := modeChangesUptoRow, standIns := [], harness := (true, "06e3b2707c890a13c50e10468e09e6d5d5dc5bae099cd57f863e72d7834c4030"), looks := true }, kinds := [], alts := [], laidByText := true, laidKinds := [.data, .handle, .pinned], laidTests := true, laidLooks := .later }
def ModeChangesUptoCardSaid : Prop := Claim7.holds Tryd.pinned (.plain (OpenSpec.upto modeChangesSpec)) modeChangesUptoCard

/-- THE SECOND FORM's CARD OF 'revetmentlaw.HeadWrites'. -/
def headWritesUptoCard : Claim7 := { stood := { row := headWritesUptoRow, standIns := [], harness := (true, "06e3b2707c890a13c50e10468e09e6d5d5dc5bae099cd57f863e72d7834c4030"), looks := true }, kinds := [], alts := [], laidByText := true, laidKinds := [.data, .data, .data, .handle], laidTests := true, laidLooks := .later }
def HeadWritesUptoCardSaid : Prop := Claim7.holds Tryd.pinned (.plain (OpenSpec.upto headWritesSpec)) headWritesUptoCard
end Rows
end Go.Proofs.YtjibcfggpfljhaaDoor
