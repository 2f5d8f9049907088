/-
  Sizes of padded texts and of a form's mark; an empty text. No conditions.
-/
import Derived.Test.YtbofobakphlpbaaGreatDoorHeadP
import Derived.Test.YtbofobakphlpbaaGreatDoorHeadV
import Derived.Test.YtbofobakphlpbaaGreatDoorHeadWr
import Derived.Test.YtbofobakphlpbaaGreatDoorSeal
namespace Go.Proofs.YtbofobakphlpbaaGreatDoor
open Go.RowKit Go.WideShapes Go.PlainAid

theorem sumE_size {s : ByteArray} (h : sumE s = 0) : s.size = 512 := by
  unfold sumE at h
  by_cases e : s.size = 512
  · exact e
  · rw [if_neg e] at h
    cases h
theorem pad_le (s : ByteArray) (n : Nat) (h : n ≤ 200) : (if fitS s n = true then padV s n else ⟨#[]⟩).size ≤ 200 := by
  by_cases e : fitS s n = true
  · rw [if_pos e]
    have h1 := fit_size e
    unfold padV
    have h2 : (⟨(List.replicate (n - s.size) (0 : UInt8)).toArray⟩ : ByteArray).size = n - s.size := by
      show Array.size _ = _
      rw [List.size_toArray, List.length_replicate]
    rw [ByteArray.size_append, h2]
    omega
  · rw [if_neg e]
    decide
theorem magic_le (f : Int) : (magicV f).size ≤ 8 := by
  unfold magicV
  split
  · decide
  · split <;> decide
theorem empty_eq {a : ByteArray} (h : a.toList.isEmpty = true) : a = ⟨#[]⟩ := by
  rw [ByteArray.toList_eq] at h
  obtain ⟨⟨l⟩⟩ := a
  cases l with
  | nil => rfl
  | cons x t => cases h
end Go.Proofs.YtbofobakphlpbaaGreatDoor
