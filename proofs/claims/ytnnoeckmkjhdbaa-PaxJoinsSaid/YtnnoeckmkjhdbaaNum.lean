/-
  Contracts of the small functions on numbers: within, power.
-/
import Derived.Test.YtnnoeckmkjhdbaaDet
namespace Go.Proofs.Ytnnoeckmkjhdbaa
open Go.RowKit

/-- A number lies within bounds: behind a name, so that the walk's tests stay whole. -/
def rngB (n low high : Int) : Bool := decide (low ≤ n) && decide (n ≤ high)
/-- A power, behind a name: the walk's simp does not open it. -/
def pw (b n : Nat) : Nat := b ^ n
theorem pw_mono {b : Nat} (hb : 0 < b) {i j : Nat} (h : i ≤ j) : pw b i ≤ pw b j := Nat.pow_le_pow_right hb h
theorem pw_succ (b k : Nat) : ((pw b (k + 1) : Nat) : Int) = (pw b k : Int) * (b : Int) := by rw [← Int.natCast_mul]; rfl

end Go.Proofs.Ytnnoeckmkjhdbaa
