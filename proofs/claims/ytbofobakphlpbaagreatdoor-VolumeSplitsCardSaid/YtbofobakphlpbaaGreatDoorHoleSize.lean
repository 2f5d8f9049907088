/-
  Contracts of hole.Size and of the reference's MapSize.
-/
import Derived.Test.YtbofobakphlpbaaGreatDoorHole
namespace Go.Proofs.YtbofobakphlpbaaGreatDoor
open Go.RowKit Go.WideShapes

/-- The sum of the first k sizes, as Go adds them. -/
def sumW (S : Nat → Int) : Nat → Int
  | 0 => 0
  | k + 1 => wrap64 (sumW S k + S k)

end Go.Proofs.YtbofobakphlpbaaGreatDoor
