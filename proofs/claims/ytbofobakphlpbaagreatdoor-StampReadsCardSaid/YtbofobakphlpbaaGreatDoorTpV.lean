/-
  The time that a text is: what both Parse and TimeParse tell. No program, no conditions.
-/
import Derived.Test.YtbofobakphlpbaaGreatDoorStampV
import Derived.Test.YtbofobakphlpbaaGreatDoorBt
namespace Go.Proofs.YtbofobakphlpbaaGreatDoor
open Go.RowKit Go.PlainAid

def negS (s : ByteArray) : Bool := s.data.toList.head? == some 45
/-- The text behind its sign. -/
def uS (s : ByteArray) : ByteArray := if negS s then s.extract 1 s.size else s
def timeT (a b : Int) : Bool := decide (-1099511627776 ≤ a) && decide (a ≤ 1099511627776) && decide (0 ≤ b) && decide (b ≤ 999999999)
/-- Seconds, nanoseconds, error. -/
def pV (s : ByteArray) : Int × Int × Int :=
  if formS (uS s).data.toList then
    if 15 < (bareZ (wholeS (uS s).data.toList)).length then (0, 0, 2)
    else
      let S := secS (negS s) (numL 0 (bareZ (wholeS (uS s).data.toList))) (numL 0 (nineL (partS (uS s).data.toList))) (moreL (partS (uS s).data.toList))
      let N := nanoS (negS s) (numL 0 (nineL (partS (uS s).data.toList))) (moreL (partS (uS s).data.toList))
      if timeT S N then (S, N, 0) else (0, 0, 2)
  else (0, 0, 3)
theorem pV_form {s : ByteArray} (h : formS (uS s).data.toList = false) : pV s = (0, 0, 3) := by
  unfold pV
  rw [h]
  rfl
theorem pV_long {s : ByteArray} (h : formS (uS s).data.toList = true) (hl : 15 < (bareZ (wholeS (uS s).data.toList)).length) : pV s = (0, 0, 2) := by
  unfold pV
  rw [if_pos h, if_pos hl]
theorem pV_good {s : ByteArray} {S N : Int} (h : formS (uS s).data.toList = true) (hl : ¬ 15 < (bareZ (wholeS (uS s).data.toList)).length)
    (hS : S = secS (negS s) (numL 0 (bareZ (wholeS (uS s).data.toList))) (numL 0 (nineL (partS (uS s).data.toList))) (moreL (partS (uS s).data.toList)))
    (hN : N = nanoS (negS s) (numL 0 (nineL (partS (uS s).data.toList))) (moreL (partS (uS s).data.toList))) : pV s = if timeT S N then (S, N, 0) else (0, 0, 2) := by
  unfold pV
  rw [if_pos h, if_neg hl, hS, hN]
theorem neg_cases (s : ByteArray) : (negS s = true ∧ ∃ r, s.data.toList = 45 :: r ∧ uS s = s.extract 1 s.size) ∨ (negS s = false ∧ uS s = s ∧ (s.data.toList = [] ∨ ∃ c r, s.data.toList = c :: r ∧ c ≠ 45)) := by
  unfold uS negS
  cases h : s.data.toList with
  | nil => right; exact ⟨rfl, rfl, .inl rfl⟩
  | cons c r =>
    by_cases hc : c = 45
    · subst hc; left; exact ⟨rfl, r, rfl, rfl⟩
    · right
      have e : ((c :: r).head? == some 45) = false := by
        rw [beq_eq_false_iff_ne]
        intro h
        injection h with h
        exact hc h
      rw [e]
      exact ⟨rfl, rfl, .inr ⟨c, r, rfl, hc⟩⟩
theorem u_size (s : ByteArray) : (uS s).size ≤ s.size := by
  unfold uS
  split
  · rw [ByteArray.size_extract]; omega
  · exact Nat.le_refl _
/-- Bounds of the seconds. -/
theorem num15 {l : List UInt8} (h : l.all dig = true) (hl : ¬ 15 < l.length) : numL 0 l < 1000000000000000 := by
  have h1 := numL_lt l 0 h
  have h2 : 10 ^ l.length ≤ 10 ^ 15 := Nat.pow_le_pow_right (by decide) (by omega)
  omega
end Go.Proofs.YtbofobakphlpbaaGreatDoor
