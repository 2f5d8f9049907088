/-
  The record of a pair, in plain words. No program, no conditions.
-/
import Derived.Test.YtbofobakphlpbaaDoorItoa
namespace Go.Proofs.YtbofobakphlpbaaDoor
open Go.RowKit

/-- How many digits the length of a record has, all but them given; the length. -/
def dN (b : Nat) : Nat := if b ≤ 8 then 1 else if b ≤ 97 then 2 else 3
def recN (b : Nat) : Nat := b + dN b
theorem dN_fix (b : Nat) (h : b ≤ 990) : (Lib.decDigits (recN b)).length = dN b := by
  unfold recN dN
  rw [dec_len _ (by split <;> (try split) <;> omega)]
  by_cases h1 : b ≤ 8
  · rw [if_pos h1, if_pos (by omega)]
  · rw [if_neg h1]
    by_cases h2 : b ≤ 97
    · rw [if_pos h2, if_neg (by omega), if_pos (by omega)]
    · rw [if_neg h2, if_neg (by omega), if_neg (by omega)]
theorem dN_first (b d : Nat) (h : b ≤ 990) (h0 : 1 ≤ d) (hd : d < dN b) : (Lib.decDigits (b + d)).length ≠ d := by
  have h3 : dN b ≤ 3 := by unfold dN; split <;> (try split) <;> omega
  have h4 : d < 3 := by omega
  unfold dN at hd
  rw [dec_len _ (by omega)]
  by_cases h1 : b ≤ 8
  · rw [if_pos h1] at hd; omega
  · rw [if_neg h1] at hd
    by_cases h2 : b ≤ 97
    · rw [if_pos h2] at hd
      split <;> (try split) <;> omega
    · rw [if_neg h2] at hd
      split <;> (try split) <;> omega
theorem recN_first (b n : Nat) (h : b ≤ 990) (hn : n < recN b) : (Lib.decDigits n).length + b ≠ n := by
  have h3 : dN b ≤ 3 := by unfold dN; split <;> (try split) <;> omega
  intro e
  have h1 : 1 ≤ (Lib.decDigits n).length := by rw [Lib.decDigits_length]; exact Lib.nDigits_pos n
  unfold recN at hn
  refine dN_first b (Lib.decDigits n).length h h1 (by omega) ?_
  rw [show b + (Lib.decDigits n).length = n by omega]
/-- The bytes of a record without its number. -/
def tailB (k v : ByteArray) : ByteArray := ⟨#[32]⟩ ++ k ++ ⟨#[61]⟩ ++ v ++ ⟨#[10]⟩
/-- A record. -/
def recB (k v : ByteArray) : ByteArray := (⟨(Lib.decDigits (recN (k.size + v.size + 3))).toArray⟩ : ByteArray) ++ ⟨#[32]⟩ ++ k ++ ⟨#[61]⟩ ++ v ++ ⟨#[10]⟩
theorem numB_size (n : Nat) : (⟨(Lib.decDigits n).toArray⟩ : ByteArray).size = (Lib.decDigits n).length := by
  show (Lib.decDigits n).toArray.size = _
  simp
theorem recAny_size (l : List UInt8) (k v : ByteArray) : ((⟨l.toArray⟩ : ByteArray) ++ ⟨#[32]⟩ ++ k ++ ⟨#[61]⟩ ++ v ++ ⟨#[10]⟩).size = l.length + (k.size + v.size + 3) := by
  simp only [ByteArray.size_append]
  have h1 : (⟨#[32]⟩ : ByteArray).size = 1 := rfl
  have h2 : (⟨#[61]⟩ : ByteArray).size = 1 := rfl
  have h3 : (⟨#[10]⟩ : ByteArray).size = 1 := rfl
  have h4 : (⟨l.toArray⟩ : ByteArray).size = l.length := by show l.toArray.size = _; simp
  omega
theorem recB_size (k v : ByteArray) (h : k.size + v.size ≤ 500) : (recB k v).size = recN (k.size + v.size + 3) := by
  unfold recB
  rw [recAny_size, dN_fix _ (by omega)]
  unfold recN
  omega
end Go.Proofs.YtbofobakphlpbaaDoor
