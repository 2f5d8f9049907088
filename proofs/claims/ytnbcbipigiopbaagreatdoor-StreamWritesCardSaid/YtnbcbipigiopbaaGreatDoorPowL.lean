/-
  The library's powers of ten out of a row's list.
-/
import Derived.Test.YtnbcbipigiopbaaGreatDoorPkM
import Derived.Test.YtnbcbipigiopbaaGreatDoorPkL
import Derived.Stop.LaidErr
namespace Go.Proofs.YtnbcbipigiopbaaGreatDoor
open Go.RowKit

theorem pow_of_laidB {rest : List (String × DataW Unit)} {W : World} (h : laidMet Tryz.prog (("math/bits.deBruijn32tab", Rows.laid_math_bits_deBruijn32tab) :: ("math/bits.deBruijn64tab", Rows.laid_math_bits_deBruijn64tab) :: ("internal/strconv.uint64pow10", Rows.laid_internal_strconv_uint64pow10) :: rest) W) : HasPow W := by
  have h2 := Go.laidMet.tail (Go.laidMet.tail h)
  exact pow_of_laid (rest := rest) h2
end Go.Proofs.YtnbcbipigiopbaaGreatDoor
