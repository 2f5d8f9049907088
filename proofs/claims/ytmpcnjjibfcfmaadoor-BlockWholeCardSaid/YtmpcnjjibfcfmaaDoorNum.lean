/-
  Contracts of the small functions on numbers: within, power.
-/
import Derived.Test.YtmpcnjjibfcfmaaDoorDet
namespace Go.Proofs.YtmpcnjjibfcfmaaDoor
open Go.RowKit

theorem within_same (n low high : Int) (w : World) : Calls Tryd.prog 69 #[.int .i64 n, .int .i64 low, .int .i64 high] w fun e w' => e = .returned (.bool (decide (low ≤ n) && decide (n ≤ high))) ∧ w' = w := by
  by_cases h1 : low ≤ n
  · have e : decide (low ≤ n) = true := by simpa using h1
    rw [e]
    go_enter Tryd.func69, Tryd.ntmps69
    go_wp2_with fail
    go_ret
    exact ⟨ret_bool (by simp), rfl⟩
  · have e : decide (low ≤ n) = false := by simpa using h1
    rw [e]
    go_enter Tryd.func69, Tryd.ntmps69
    go_wp2_with fail
    go_ret
    exact ⟨ret_bool (by simp), rfl⟩

/-- A number lies within bounds: behind a name, so that the walk's tests stay whole. -/
def rngB (n low high : Int) : Bool := decide (low ≤ n) && decide (n ≤ high)
theorem within_rng (n low high : Int) (w : World) : Calls Tryd.prog 69 #[.int .i64 n, .int .i64 low, .int .i64 high] w fun e w' => e = .returned (.bool (rngB n low high)) ∧ w' = w := within_same n low high w
theorem within_any (n low high : Int) (w : World) : Calls Tryd.prog 69 #[.int .i64 n, .int .i64 low, .int .i64 high] w fun e w' => e = .returned (.bool (decide (low ≤ n) && decide (n ≤ high))) ∧ Ext w w' :=
  (within_same n low high w).mono fun _ _ ⟨h, k⟩ => ⟨h, by rw [k]; exact Ext.refl _⟩
theorem within_yes' {n low high : Int} (h1 : low ≤ n) (h2 : n ≤ high) (w : World) : Calls Tryd.prog 69 #[.int .i64 n, .int .i64 low, .int .i64 high] w fun e w' => e = .returned (.bool true) ∧ w' = w :=
  (within_same n low high w).mono fun _ _ ⟨h, k⟩ => ⟨by rw [h]; simp [h1, h2], k⟩
theorem within_no' {n low high : Int} (h : n < low ∨ high < n) (w : World) : Calls Tryd.prog 69 #[.int .i64 n, .int .i64 low, .int .i64 high] w fun e w' => e = .returned (.bool false) ∧ w' = w :=
  (within_same n low high w).mono fun _ _ ⟨h', k⟩ => ⟨by rw [h']; exact ret_bool (by simp; omega), k⟩
theorem within_yes {n low high : Int} (h1 : low ≤ n) (h2 : n ≤ high) (w : World) : Calls Tryd.prog 69 #[.int .i64 n, .int .i64 low, .int .i64 high] w fun e w' => e = .returned (.bool true) ∧ Ext w w' :=
  (within_any n low high w).mono fun _ _ ⟨h, k⟩ => ⟨by rw [h]; simp [h1, h2], k⟩
theorem within_no {n low high : Int} (h : n < low ∨ high < n) (w : World) : Calls Tryd.prog 69 #[.int .i64 n, .int .i64 low, .int .i64 high] w fun e w' => e = .returned (.bool false) ∧ Ext w w' :=
  (within_any n low high w).mono fun _ _ ⟨h', k⟩ => ⟨by rw [h']; exact ret_bool (by simp; omega), k⟩

/-- A power, behind a name: the walk's simp does not open it. -/
def pw (b n : Nat) : Nat := b ^ n
theorem pw_mono {b : Nat} (hb : 0 < b) {i j : Nat} (h : i ≤ j) : pw b i ≤ pw b j := Nat.pow_le_pow_right hb h
theorem pw_succ (b k : Nat) : ((pw b (k + 1) : Nat) : Int) = (pw b k : Int) * (b : Int) := by rw [← Int.natCast_mul]; rfl

end Go.Proofs.YtmpcnjjibfcfmaaDoor
