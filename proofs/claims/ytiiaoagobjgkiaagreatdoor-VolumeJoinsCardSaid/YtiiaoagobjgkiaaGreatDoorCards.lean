/-
  DERIVED. GIVEN WITH THE SEED: THE CARDS: each row of YtiiaoagobjgkiaaGreatDoorRows.lean that lists a variable, with what it lists TIED to the program's text (the seventh form; the later family's looks); each row that meets fmt, with fmt's text TOLD by the authors' own Lean function (tested against real Go, not proved from fmt's source: count such statements apart). THE CARD IS WHAT COUNTS. Prove the row's statement (the work); the ties are given (YtiiaoagobjgkiaaGreatDoorTie.lean); close each card by the builder's one call (the guide's Derived/Test/ToyasCard.lean, 'card_holds'). Laid BY PROGRAM, IN A SANDBOX (cutbox-door.mjs). By AI agents, Wed Nov 11 2026. No macro, syntax, notation, axiom, sorry.
-/
import Derived.Test.YtiiaoagobjgkiaaGreatDoorRows
import GoSem.ClaimSeven
namespace Go.Proofs.YtiiaoagobjgkiaaGreatDoor
namespace Rows

/-- THE TIED CARD OF 'revetmentlaw.VolumeJoins'. -/
def volumeJoinsCard : Claim7 := { stood := { row := volumeJoinsRow, standIns := [], harness := (true, "cedeb02a5b8dba51b2fd6ff3f7160839e44ed16fa8c6e6b1b6099d183771bdb4"), looks := true }, kinds := [], alts := [], laidByText := true, laidKinds := [.data, .handle, .pinned], laidTests := true, laidLooks := .later }
def VolumeJoinsCardSaid : Prop := Claim7.holds Tryz.pinned (.plain (OpenSpec.ofChange volumeJoinsSpec)) volumeJoinsCard

/-- THE TIED CARD OF 'revetmentlaw.TreeGets'. -/
def treeGetsCard : Claim7 := { stood := { row := treeGetsRow, standIns := [], harness := (true, "cedeb02a5b8dba51b2fd6ff3f7160839e44ed16fa8c6e6b1b6099d183771bdb4"), looks := true }, kinds := [], alts := [], laidByText := true, laidKinds := [.data, .handle, .pinned], laidTests := true, laidLooks := .later }
def TreeGetsCardSaid : Prop := Claim7.holds Tryz.pinned (.plain (OpenSpec.ofChange treeGetsSpec)) treeGetsCard

/-- THE TIED CARD OF 'revetmentlaw.TreeFollows'. -/
def treeFollowsCard : Claim7 := { stood := { row := treeFollowsRow, standIns := [], harness := (true, "cedeb02a5b8dba51b2fd6ff3f7160839e44ed16fa8c6e6b1b6099d183771bdb4"), looks := true }, kinds := [], alts := [], laidByText := true, laidKinds := [.data, .handle, .pinned], laidTests := true, laidLooks := .later }
def TreeFollowsCardSaid : Prop := Claim7.holds Tryz.pinned (.plain (OpenSpec.ofChange treeFollowsSpec)) treeFollowsCard

/-- THE TIED CARD OF 'revetmentlaw.TreeDoes'. -/
def treeDoesCard : Claim7 := { stood := { row := treeDoesRow, standIns := [], harness := (true, "cedeb02a5b8dba51b2fd6ff3f7160839e44ed16fa8c6e6b1b6099d183771bdb4"), looks := true }, kinds := [], alts := [], laidByText := true, laidKinds := [.data, .handle, .pinned], laidTests := true, laidLooks := .later }
def TreeDoesCardSaid : Prop := Claim7.holds Tryz.pinned (.plain (OpenSpec.ofChange treeDoesSpec)) treeDoesCard

/-- THE TIED CARD OF 'revetmentlaw.TreeNames'. -/
def treeNamesCard : Claim7 := { stood := { row := treeNamesRow, standIns := [], harness := (true, "cedeb02a5b8dba51b2fd6ff3f7160839e44ed16fa8c6e6b1b6099d183771bdb4"), looks := true }, kinds := [], alts := [], laidByText := true, laidKinds := [.data, .handle, .pinned], laidTests := true, laidLooks := .later }
def TreeNamesCardSaid : Prop := Claim7.holds Tryz.pinned (.plain (OpenSpec.ofChange treeNamesSpec)) treeNamesCard

/-- THE TIED CARD OF 'revetmentlaw.TreeCopies'. -/
def treeCopiesCard : Claim7 := { stood := { row := treeCopiesRow, standIns := [], harness := (true, "cedeb02a5b8dba51b2fd6ff3f7160839e44ed16fa8c6e6b1b6099d183771bdb4"), looks := true }, kinds := [], alts := [], laidByText := true, laidKinds := [.data, .handle, .pinned], laidTests := true, laidLooks := .later }
def TreeCopiesCardSaid : Prop := Claim7.holds Tryz.pinned (.plain (OpenSpec.ofChange treeCopiesSpec)) treeCopiesCard

/-- THE TIED CARD OF 'revetmentlaw.TreeSames'. -/
def treeSamesCard : Claim7 := { stood := { row := treeSamesRow, standIns := [], harness := (true, "cedeb02a5b8dba51b2fd6ff3f7160839e44ed16fa8c6e6b1b6099d183771bdb4"), looks := true }, kinds := [], alts := [], laidByText := true, laidKinds := [.data, .handle, .pinned], laidTests := true, laidLooks := .later }
def TreeSamesCardSaid : Prop := Claim7.holds Tryz.pinned (.plain (OpenSpec.ofChange treeSamesSpec)) treeSamesCard

/-- THE TIED CARD OF 'revetmentlaw.SinceGones'. -/
def sinceGonesCard : Claim7 := { stood := { row := sinceGonesRow, standIns := [], harness := (true, "cedeb02a5b8dba51b2fd6ff3f7160839e44ed16fa8c6e6b1b6099d183771bdb4"), looks := true }, kinds := [], alts := [], laidByText := true, laidKinds := [.data, .handle, .pinned], laidTests := true, laidLooks := .later }
def SinceGonesCardSaid : Prop := Claim7.holds Tryz.pinned (.plain (OpenSpec.ofChange sinceGonesSpec)) sinceGonesCard

/-- THE SECOND FORM's CARD OF 'revetmentlaw.VolumeJoins'. -/
def volumeJoinsUptoCard : Claim7 := { stood := { row := volumeJoinsUptoRow, standIns := [], harness := (true, "cedeb02a5b8dba51b2fd6ff3f7160839e44ed16fa8c6e6b1b6099d183771bdb4"), looks := true }, kinds := [], alts := [], laidByText := true, laidKinds := [.data, .handle, .pinned], laidTests := true, laidLooks := .later }
def VolumeJoinsUptoCardSaid : Prop := Claim7.holds Tryz.pinned (.plain (OpenSpec.upto volumeJoinsSpec)) volumeJoinsUptoCard

/-- THE SECOND FORM's CARD OF 'revetmentlaw.TreeGets'. -/
def treeGetsUptoCard : Claim7 := { stood := { row := treeGetsUptoRow, standIns := [], harness := (true, "cedeb02a5b8dba51b2fd6ff3f7160839e44ed16fa8c6e6b1b6099d183771bdb4"), looks := true }, kinds := [], alts := [], laidByText := true, laidKinds := [.data, .handle, .pinned], laidTests := true, laidLooks := .later }
def TreeGetsUptoCardSaid : Prop := Claim7.holds Tryz.pinned (.plain (OpenSpec.upto treeGetsSpec)) treeGetsUptoCard

/-- THE SECOND FORM's CARD OF 'revetmentlaw.TreeFollows'. -/
def treeFollowsUptoCard : Claim7 := { stood := { row := treeFollowsUptoRow, standIns := [], harness := (true, "cedeb02a5b8dba51b2fd6ff3f7160839e44ed16fa8c6e6b1b6099d183771bdb4"), looks := true }, kinds := [], alts := [], laidByText := true, laidKinds := [.data, .handle, .pinned], laidTests := true, laidLooks := .later }
def TreeFollowsUptoCardSaid : Prop := Claim7.holds Tryz.pinned (.plain (OpenSpec.upto treeFollowsSpec)) treeFollowsUptoCard

/-- THE SECOND FORM's CARD OF 'revetmentlaw.TreeDoes'. -/
def treeDoesUptoCard : Claim7 := { stood := { row := treeDoesUptoRow, standIns := [], harness := (true, "cedeb02a5b8dba51b2fd6ff3f7160839e44ed16fa8c6e6b1b6099d183771bdb4"), looks := true }, kinds := [], alts := [], laidByText := true, laidKinds := [.data, .handle, .pinned], laidTests := true, laidLooks := .later }
def TreeDoesUptoCardSaid : Prop := Claim7.holds Tryz.pinned (.plain (OpenSpec.upto treeDoesSpec)) treeDoesUptoCard

/-- THE SECOND FORM's CARD OF 'revetmentlaw.TreeNames'. -/
def treeNamesUptoCard : Claim7 := { stood := { row := treeNamesUptoRow, standIns := [], harness := (true, "cedeb02a5b8dba51b2fd6ff3f7160839e44ed16fa8c6e6b1b6099d183771bdb4"), looks := true }, kinds := [], alts := [], laidByText := true, laidKinds := [.data, .handle, .pinned], laidTests := true, laidLooks := .later }
def TreeNamesUptoCardSaid : Prop := Claim7.holds Tryz.pinned (.plain (OpenSpec.upto treeNamesSpec)) treeNamesUptoCard

/-- THE SECOND FORM's CARD OF 'revetmentlaw.TreeCopies'. -/
def treeCopiesUptoCard : Claim7 := { stood := { row := treeCopiesUptoRow, standIns := [], harness := (true, "cedeb02a5b8dba51b2fd6ff3f7160839e44ed16fa8c6e6b1b6099d183771bdb4"), looks := true }, kinds := [], alts := [], laidByText := true, laidKinds := [.data, .handle, .pinned], laidTests := true, laidLooks := .later }
def TreeCopiesUptoCardSaid : Prop := Claim7.holds Tryz.pinned (.plain (OpenSpec.upto treeCopiesSpec)) treeCopiesUptoCard

/-- THE SECOND FORM's CARD OF 'revetmentlaw.TreeSames'. -/
def treeSamesUptoCard : Claim7 := { stood := { row := treeSamesUptoRow, standIns := [], harness := (true, "cedeb02a5b8dba51b2fd6ff3f7160839e44ed16fa8c6e6b1b6099d183771bdb4"), looks := true }, kinds := [], alts := [], laidByText := true, laidKinds := [.data, .handle, .pinned], laidTests := true, laidLooks := .later }
def TreeSamesUptoCardSaid : Prop := Claim7.holds Tryz.pinned (.plain (OpenSpec.upto treeSamesSpec)) treeSamesUptoCard

/-- THE SECOND FORM's CARD OF 'revetmentlaw.SinceGones'. -/
def sinceGonesUptoCard : Claim7 := { stood := { row := sinceGonesUptoRow, standIns := [], harness := (true, "cedeb02a5b8dba51b2fd6ff3f7160839e44ed16fa8c6e6b1b6099d183771bdb4"), looks := true }, kinds := [], alts := [], laidByText := true, laidKinds := [.data, .handle, .pinned], laidTests := true, laidLooks := .later }
def SinceGonesUptoCardSaid : Prop := Claim7.holds Tryz.pinned (.plain (OpenSpec.upto sinceGonesSpec)) sinceGonesUptoCard
end Rows
end Go.Proofs.YtiiaoagobjgkiaaGreatDoor
