/-
  DERIVED. GIVEN WITH THE SEED: THE CARDS: each row of YtnnoeckmkjhdbaaDoorRows.lean that lists a variable, with what it lists TIED to the program's text (the seventh form; the later family's looks); each row that meets fmt, with fmt's text TOLD by the authors' own Lean function (tested against real Go, not proved from fmt's source: count such statements apart). THE CARD IS WHAT COUNTS. Prove the row's statement (the work); the ties are given (YtnnoeckmkjhdbaaDoorTie.lean); close each card by the builder's one call (the guide's Derived/Test/ToyasCard.lean, 'card_holds'). Laid BY PROGRAM, IN A SANDBOX (cutbox-door.mjs). By AI agents, Wed Nov 11 2026. No macro, syntax, notation, axiom, sorry.
-/
import Derived.Test.YtnnoeckmkjhdbaaDoorRows
import GoSem.ClaimSeven
namespace Go.Proofs.YtnnoeckmkjhdbaaDoor
namespace Rows

/-- THE TIED CARD OF 'revetmentlaw.GlobMatches'. -/
def globMatchesCard : Claim7 := { stood := { row := globMatchesRow, standIns := [], harness := (true, "a5bc771a3a8b733af04ead0c8b977f460ea3f0d3bc49e70f6b2ed4e43c183cc5"), looks := true }, kinds := [], alts := [], laidByText := true, laidKinds := [.handle], laidTests := true, laidLooks := .later }
def GlobMatchesCardSaid : Prop := Claim7.holds Tryd.pinned (.plain (OpenSpec.ofChange globMatchesSpec)) globMatchesCard

/-- THE SECOND FORM's CARD OF 'revetmentlaw.GlobMatches'. -/
def globMatchesUptoCard : Claim7 := { stood := { row := globMatchesUptoRow, standIns := [], harness := (true, "a5bc771a3a8b733af04ead0c8b977f460ea3f0d3bc49e70f6b2ed4e43c183cc5"), looks := true }, kinds := [], alts := [], laidByText := true, laidKinds := [.handle], laidTests := true, laidLooks := .later }
def GlobMatchesUptoCardSaid : Prop := Claim7.holds Tryd.pinned (.plain (OpenSpec.upto globMatchesSpec)) globMatchesUptoCard
end Rows
end Go.Proofs.YtnnoeckmkjhdbaaDoor
