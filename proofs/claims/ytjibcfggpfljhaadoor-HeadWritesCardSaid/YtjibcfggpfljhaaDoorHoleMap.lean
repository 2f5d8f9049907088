/-
  The contract of the reference's MapRight.
-/
import Derived.Test.YtjibcfggpfljhaaDoorHole
namespace Go.Proofs.YtjibcfggpfljhaaDoor
open Go.RowKit Go.WideShapes

end Go.Proofs.YtjibcfggpfljhaaDoor
