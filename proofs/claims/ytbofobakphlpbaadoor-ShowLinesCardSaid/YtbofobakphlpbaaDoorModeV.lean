/-
  A mode as nine letters, in plain words. No program, no conditions.
-/
import Derived.PlainAid
import Derived.IntWalk
namespace Go.Proofs.YtbofobakphlpbaaDoor
open Go.RowKit Go.PlainAid

/-- Bit k of a number. -/
def bitB (m : Int) (k : Nat) : Bool := m / 2 ^ k % 2 == 1
theorem bitB_mod (m : Int) (k : Nat) : (m / 2 ^ k % 2 == 0) = !bitB m k := by
  unfold bitB
  have : m / 2 ^ k % 2 = 0 ∨ m / 2 ^ k % 2 = 1 := by omega
  rcases this with h | h <;> rw [h] <;> rfl
theorem bitB_u64 (m : Int) (k : Nat) (h : k ≤ 11) : (m % 18446744073709551616 / 2 ^ k % 2 == 1) = bitB m k := by
  unfold bitB
  have e : m % 18446744073709551616 / 2 ^ k % 2 = m / 2 ^ k % 2 := by
    rcases (show k = 0 ∨ k = 1 ∨ k = 2 ∨ k = 3 ∨ k = 4 ∨ k = 5 ∨ k = 6 ∨ k = 7 ∨ k = 8 ∨ k = 9 ∨ k = 10 ∨ k = 11 by omega) with rfl | rfl | rfl | rfl | rfl | rfl | rfl | rfl | rfl | rfl | rfl | rfl
    · rw [show (2 : Int) ^ 0 = 1 by decide]; omega
    · rw [show (2 : Int) ^ 1 = 2 by decide]; omega
    · rw [show (2 : Int) ^ 2 = 4 by decide]; omega
    · rw [show (2 : Int) ^ 3 = 8 by decide]; omega
    · rw [show (2 : Int) ^ 4 = 16 by decide]; omega
    · rw [show (2 : Int) ^ 5 = 32 by decide]; omega
    · rw [show (2 : Int) ^ 6 = 64 by decide]; omega
    · rw [show (2 : Int) ^ 7 = 128 by decide]; omega
    · rw [show (2 : Int) ^ 8 = 256 by decide]; omega
    · rw [show (2 : Int) ^ 9 = 512 by decide]; omega
    · rw [show (2 : Int) ^ 10 = 1024 by decide]; omega
    · rw [show (2 : Int) ^ 11 = 2048 by decide]; omega
  rw [e]
theorem and1_nat (n : Nat) : n &&& 1 = n % 2 := Nat.and_one_is_mod n
/-- And with 1. -/
theorem and1_i64 (x : Int) : bits .and .i64 x 1 = x % 2 := by
  unfold bits
  show IntKind.i64.wrap ((BitVec.ofInt 64 x &&& BitVec.ofInt 64 1).toNat : Nat) = _
  have e : ((BitVec.ofInt 64 x &&& BitVec.ofInt 64 1).toNat : Int) = x % 2 := by
    rw [BitVec.toNat_and]
    have h1 : (BitVec.ofInt 64 1).toNat = 1 := by decide
    rw [h1, and1_nat, BitVec.toNat_ofInt]
    have : ((2 ^ 64 : Nat) : Int) = 18446744073709551616 := by decide
    rw [this]
    omega
  rw [e, IntKind.wrap_i64]
  omega

/-- The letter of a place. -/
def letA (j : Nat) : UInt8 := if j % 3 = 0 then 114 else if j % 3 = 1 then 119 else 120
def sstA (i : Nat) : UInt8 := if i = 2 then 116 else 115
/-- The letter of a place, its bit asked. -/
def plainC (m : Int) (j : Nat) : UInt8 := if bitB m (8 - j) then letA j else 45
/-- The last letter of a triple. -/
def lastC (m : Int) (i : Nat) : UInt8 := if bitB m (11 - i) then (if bitB m (6 - 3 * i) then sstA i else sstA i - 32) else plainC m (3 * i + 2)
/-- Behind so many rounds of the first loop, and of the second. -/
def row1 (m : Int) (k : Nat) : List UInt8 := (List.range 9).map fun j => if j < k then plainC m j else letA j
def row2 (m : Int) (i : Nat) : List UInt8 := (List.range 9).map fun j => if j % 3 = 2 ∧ j / 3 < i then lastC m (j / 3) else plainC m j
def modeL (m : Int) : List UInt8 := row2 m 3
theorem row1_len (m : Int) (k : Nat) : (row1 m k).length = 9 := by simp [row1]
theorem row2_len (m : Int) (k : Nat) : (row2 m k).length = 9 := by simp [row2]
theorem row1_at (m : Int) (k j : Nat) (h : j < 9) : (row1 m k)[j]? = some (if j < k then plainC m j else letA j) := by simp [row1, h]
theorem row2_at (m : Int) (k j : Nat) (h : j < 9) : (row2 m k)[j]? = some (if j % 3 = 2 ∧ j / 3 < k then lastC m (j / 3) else plainC m j) := by simp [row2, h]
theorem list_ext9 {a b : List UInt8} (ha : a.length = 9) (hb : b.length = 9) (h : ∀ j, j < 9 → a[j]? = b[j]?) : a = b := by
  apply List.ext_getElem? 
  intro j
  by_cases hj : j < 9
  · exact h j hj
  · rw [List.getElem?_eq_none (by omega), List.getElem?_eq_none (by omega)]
theorem row1_set (m : Int) (k : Nat) (h : k < 9) (hb : bitB m (8 - k) = false) : (row1 m k).set k 45 = row1 m (k + 1) := by
  refine list_ext9 (by simp [row1_len]) (row1_len _ _) fun j hj => ?_
  rw [row1_at _ _ _ hj, List.getElem?_set]
  by_cases e : k = j
  · subst e
    rw [if_pos rfl, if_pos (by rw [row1_len]; exact h), if_pos (by omega)]
    simp [plainC, hb]
  · rw [if_neg e, row1_at _ _ _ hj]
    by_cases e2 : j < k
    · rw [if_pos e2, if_pos (by omega)]
    · rw [if_neg e2, if_neg (by omega)]
theorem row1_keep (m : Int) (k : Nat) (_h : k < 9) (hb : bitB m (8 - k) = true) : row1 m k = row1 m (k + 1) := by
  refine list_ext9 (row1_len _ _) (row1_len _ _) fun j hj => ?_
  rw [row1_at _ _ _ hj, row1_at _ _ _ hj]
  by_cases e : k = j
  · subst e
    rw [if_neg (by omega), if_pos (by omega)]
    simp [plainC, hb]
  · by_cases e2 : j < k
    · rw [if_pos e2, if_pos (by omega)]
    · rw [if_neg e2, if_neg (by omega)]
theorem row1_end (m : Int) : row1 m 9 = row2 m 0 := by
  refine list_ext9 (row1_len _ _) (row2_len _ _) fun j hj => ?_
  rw [row1_at _ _ _ hj, row2_at _ _ _ hj, if_pos hj, if_neg (by omega)]
theorem row1_start (m : Int) : row1 m 0 = [114, 119, 120, 114, 119, 120, 114, 119, 120] := by simp [row1, letA, List.range, List.range.loop]
theorem row2_set (m : Int) (i : Nat) (_h : i < 3) (x : UInt8) (hx : x = lastC m i) : (row2 m i).set (3 * i + 2) x = row2 m (i + 1) := by
  subst hx
  refine list_ext9 (by simp [row2_len]) (row2_len _ _) fun j hj => ?_
  rw [row2_at _ _ _ hj, List.getElem?_set]
  by_cases e : 3 * i + 2 = j
  · subst e
    rw [if_pos rfl, if_pos (by rw [row2_len]; omega), if_pos (by omega)]
    rw [show (3 * i + 2) / 3 = i by omega]
  · rw [if_neg e, row2_at _ _ _ hj]
    by_cases e2 : j % 3 = 2 ∧ j / 3 < i
    · rw [if_pos e2, if_pos (by omega)]
    · rw [if_neg e2, if_neg (by omega)]
theorem row2_keep (m : Int) (i : Nat) (h : i < 3) (hb : bitB m (11 - i) = false) : row2 m i = row2 m (i + 1) := by
  have := row2_set m i h (lastC m i) rfl
  rw [← this]
  have e : (row2 m i)[3 * i + 2]? = some (lastC m i) := by
    rw [row2_at _ _ _ (by omega), if_neg (by omega)]
    simp [lastC, hb]
  obtain ⟨hl, he⟩ := List.getElem?_eq_some_iff.1 e
  rw [← he, List.set_getElem_self]
end Go.Proofs.YtbofobakphlpbaaDoor
