/-
  What bytes put into their pieces come to, in plain words. No program, no conditions.
-/
import Derived.Test.YtbofobakphlpbaaGreatDoorHoleSize
import Derived.Laws.CopyOwn
namespace Go.Proofs.YtbofobakphlpbaaGreatDoor
open Go.RowKit

/-- How many bytes the first k pieces have. -/
def sN (S : Nat → Int) : Nat → Nat
  | 0 => 0
  | k + 1 => sN S k + (S k).toNat
/-- What lies up to the end of the first k pieces. -/
def outL (d : List UInt8) (A S : Nat → Int) : Nat → List UInt8
  | 0 => []
  | k + 1 => outL d A S k ++ (List.replicate ((A k).toNat - (outL d A S k).length) 0 ++ (d.drop (sN S k)).take (S k).toNat)
/-- Where the first k pieces end. -/
def endN (A S : Nat → Int) : Nat → Nat
  | 0 => 0
  | k + 1 => (A k + S k).toNat

theorem holeB_pieces {n k : Nat} {A S : Nat → Int} {size : Int} (h : holeB n A S size = true) (hk : k < n) : pieceB A S size k = true := by
  unfold holeB at h
  simp only [Bool.and_eq_true] at h
  exact List.all_eq_true.1 h.2 k (by simpa using hk)
theorem piece_ahead {A S : Nat → Int} {size : Int} {k : Nat} (h : pieceB A S size k = true) (hp : ∀ j, j < k → pieceB A S size j = true) : endN A S k ≤ (A k).toNat := by
  cases k with
  | zero => simp [endN]
  | succ m =>
    have h1 := hp m (by omega)
    simp [pieceB] at h h1
    simp only [endN]
    omega
theorem endN_le {A S : Nat → Int} {size : Int} {k : Nat} (h0 : 0 ≤ size) (hp : ∀ j, j < k → pieceB A S size j = true) : (endN A S k : Int) ≤ size := by
  cases k with
  | zero => simpa [endN] using h0
  | succ m =>
    have h1 := hp m (by omega)
    simp [pieceB] at h1
    simp only [endN]
    omega
theorem sN_le_end {A S : Nat → Int} {size : Int} : ∀ (k : Nat), (∀ j, j < k → pieceB A S size j = true) → sN S k ≤ endN A S k
  | 0, _ => Nat.le_refl _
  | k + 1, hp => by
    have ih := sN_le_end k fun j hj => hp j (by omega)
    have h1 := piece_ahead (hp k (by omega)) fun j hj => hp j (by omega)
    have h2 := piece_split (hp k (by omega))
    simp only [sN, endN]
    omega
theorem sN_mono (S : Nat → Int) {j k : Nat} (h : j ≤ k) : sN S j ≤ sN S k := by
  induction k with
  | zero => obtain rfl : j = 0 := by omega
            exact Nat.le_refl _
  | succ k ih =>
    rcases Nat.lt_or_ge j (k + 1) with h1 | h1
    · have := ih (by omega)
      simp only [sN]; omega
    · obtain rfl : j = k + 1 := by omega
      exact Nat.le_refl _
theorem sumW_sN {A S : Nat → Int} {size : Int} (h0 : 0 ≤ size) (hs : size ≤ 9223372036854775807) : ∀ (k : Nat), (∀ j, j < k → pieceB A S size j = true) → sumW S k = (sN S k : Int)
  | 0, _ => rfl
  | k + 1, hp => by
    have ih := sumW_sN h0 hs k fun j hj => hp j (by omega)
    have h1 := sN_le_end (k + 1) hp
    have h2 := endN_le h0 hp
    have h3 := piece_split (hp k (by omega))
    simp only [sN] at h1
    simp only [sumW, sN, ih]
    have e : ((sN S k : Int) + S k) = ((sN S k + (S k).toNat : Nat) : Int) := by omega
    rw [e]
    unfold wrap64
    omega
theorem outL_len {A S : Nat → Int} {size : Int} (d : List UInt8) : ∀ (k : Nat), (∀ j, j < k → pieceB A S size j = true) → sN S k ≤ d.length → (outL d A S k).length = endN A S k
  | 0, _, _ => rfl
  | k + 1, hp, hd => by
    simp only [sN] at hd
    have ih := outL_len d k (fun j hj => hp j (by omega)) (by omega)
    have h1 := piece_ahead (hp k (by omega)) fun j hj => hp j (by omega)
    have h2 := piece_split (hp k (by omega))
    have e : endN A S (k + 1) = (A k + S k).toNat := rfl
    rw [e]
    simp only [outL, List.length_append, List.length_replicate, List.length_take, List.length_drop, ih]
    omega
/-- The buffer behind k pieces. -/
def rowP (d : List UInt8) (A S : Nat → Int) (z : Nat) (k : Nat) : List UInt8 := outL d A S k ++ List.replicate (z - (outL d A S k).length) 0
theorem rowP_len {A S : Nat → Int} {z k : Nat} (d : List UInt8) (hp : ∀ j, j < k → pieceB A S z j = true) (hd : sN S k ≤ d.length) : (rowP d A S z k).length = z := by
  have h1 := outL_len d k hp hd
  have h2 := endN_le (by omega) hp
  simp only [rowP, List.length_append, List.length_replicate, h1]
  omega
theorem rowP_step {A S : Nat → Int} {z k : Nat} (d : List UInt8) (hp : ∀ j, j < k + 1 → pieceB A S z j = true) (hd : sN S (k + 1) ≤ d.length) :
    splice (rowP d A S z k) (A k).toNat ((d.drop (sN S k)).take (S k).toNat) = rowP d A S z (k + 1) := by
  have e1 := outL_len d (k + 1) hp hd
  simp only [sN] at hd
  have e0 := outL_len d k (fun j hj => hp j (by omega)) (by omega)
  have h1 := piece_ahead (hp k (by omega)) fun j hj => hp j (by omega)
  have h2 := piece_split (hp k (by omega))
  have hl : ((d.drop (sN S k)).take (S k).toNat).length = (S k).toNat := by simp; omega
  unfold splice rowP
  rw [hl, e1, List.take_append, e0, List.take_of_length_le (by omega), List.take_replicate, List.drop_append, e0, List.drop_eq_nil_of_le (show (outL d A S k).length ≤ (A k).toNat + (S k).toNat by omega), List.drop_replicate, List.nil_append]
  have e2 : endN A S (k + 1) = (A k + S k).toNat := rfl
  rw [e2]
  simp only [outL, e0, List.append_assoc]
  rw [show min ((A k).toNat - endN A S k) (z - endN A S k) = (A k).toNat - endN A S k by omega, show z - endN A S k - ((A k).toNat + (S k).toNat - endN A S k) = z - (A k + S k).toNat by omega]
theorem rowP_zero (d : List UInt8) (A S : Nat → Int) (z : Nat) : rowP d A S z 0 = List.replicate z 0 := by simp [rowP, outL]

/-- Which error, and the file. -/
def putE (dn : Nat) (n : Nat) (A S : Nat → Int) (size : Int) : Int := if holeB n A S size && ((dn : Int) == sumW S n) then (if 4000 < size then 4 else 0) else 1
def putV (d : ByteArray) (n : Nat) (A S : Nat → Int) (size : Int) : ByteArray := if putE d.size n A S size = 0 then ⟨(rowP d.data.toList A S size.toNat n).toArray⟩ else ⟨#[]⟩
end Go.Proofs.YtbofobakphlpbaaGreatDoor
