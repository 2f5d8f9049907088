/-
  Octal digits, in plain words. No program, no conditions.
-/
import Derived.PlainAid
import Derived.IntWalk
namespace Go.Proofs.YtbofobakphlpbaaGreatDoor
open Go.RowKit Go.PlainAid

/-- n without its last k octal digits. -/
def o8 (n : Int) : Nat → Int
  | 0 => n
  | k + 1 => o8 n k / 8
theorem o8_lo {n : Int} (h : 0 ≤ n) : ∀ k, 0 ≤ o8 n k
  | 0 => h
  | k + 1 => by have := o8_lo h k; simp only [o8]; omega
theorem o8_hi {n : Int} (h : 0 ≤ n) : ∀ k, o8 n k ≤ n
  | 0 => Int.le_refl _
  | k + 1 => by have := o8_lo h k; have := o8_hi h k; simp only [o8]; omega
/-- The digit at a place from behind. -/
def dg (n : Int) (k : Nat) : UInt8 := UInt8.ofNat (48 + o8 n k % 8).toNat
theorem dg_int (n : Int) (k : Nat) : ((dg n k).toNat : Int) = 48 + o8 n k % 8 := by
  unfold dg
  rw [UInt8.toNat_ofNat']
  omega
def oct (n : Int) : Nat → List UInt8
  | 0 => []
  | k + 1 => dg n k :: oct n k
theorem oct_length (n : Int) : ∀ k, (oct n k).length = k
  | 0 => rfl
  | k + 1 => by simp [oct, oct_length n k]
theorem o8_zero {n : Int} {j : Nat} (h : o8 n j = 0) : ∀ i, o8 n (j + i) = 0
  | 0 => h
  | i + 1 => by
    have := o8_zero h i
    show o8 n (j + i) / 8 = 0
    rw [this]; rfl
/-- Behind the last digit that counts stand zeros. -/
theorem oct_pad {n : Int} {j : Nat} (h : o8 n j = 0) : ∀ i, oct n (j + i) = List.replicate i 48 ++ oct n j
  | 0 => by simp
  | i + 1 => by
    have e : oct n (j + (i + 1)) = dg n (j + i) :: oct n (j + i) := rfl
    have hd : dg n (j + i) = 48 := by unfold dg; rw [o8_zero h i]; rfl
    rw [e, hd, oct_pad h i, List.replicate_succ]
    rfl
/-- How many digits a number has is told by the powers of 8. -/
theorem o8_pow (n : Int) (h : 0 ≤ n) : ∀ k : Nat, (o8 n k = 0 ↔ n < ((8 ^ k : Nat) : Int))
  | 0 => by simp only [o8, Nat.pow_zero]; omega
  | k + 1 => by
    have e : ∀ k : Nat, o8 n k = n / ((8 ^ k : Nat) : Int) := by
      intro k
      induction k with
      | zero => simp [o8]
      | succ k ih =>
        simp only [o8]
        rw [ih, Int.ediv_ediv_of_nonneg (Int.natCast_nonneg _), Nat.pow_succ, Int.natCast_mul]
        rfl
    rw [e (k + 1)]
    have hp : 0 < ((8 ^ (k + 1) : Nat) : Int) := Int.natCast_pos.2 (Nat.pow_pos (by decide))
    constructor
    · intro h0
      have := Int.lt_mul_ediv_self_add (x := n) hp
      rw [h0] at this
      simpa using this
    · intro h1
      exact Int.ediv_eq_zero_of_lt h h1
end Go.Proofs.YtbofobakphlpbaaGreatDoor
