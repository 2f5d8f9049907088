/-
  The contract of the reference's MapRight.
-/
import Derived.Test.YtbofobakphlpbaaGreatDoorHole
namespace Go.Proofs.YtbofobakphlpbaaGreatDoor
open Go.RowKit Go.WideShapes

end Go.Proofs.YtbofobakphlpbaaGreatDoor
