/-
  Bytes of texts as lists: a byte, the first byte, a part. No program, no conditions.
-/
import Derived.PlainAid
import Derived.Lib.IndexBytes
namespace Go.Proofs.YtbofobakphlpbaaDoor
open Go.RowKit Go.PlainAid

theorem b_some {s : ByteArray} {k : Nat} {c : UInt8} (h : s.data.toList[k]? = some c) : k < s.size ∧ bt s k = (c.toNat : Int) := by
  obtain ⟨hl, hc⟩ := List.getElem?_eq_some_iff.1 h
  have hk : k < s.size := hl
  refine ⟨hk, ?_⟩
  unfold bt
  rw [dif_pos hk, ← hc]
  rfl
theorem b_at {s : ByteArray} {k : Nat} (h : k < s.size) : ∃ c : UInt8, s.data.toList[k]? = some c ∧ bt s k = (c.toNat : Int) ∧ s.data.toList.drop k = c :: s.data.toList.drop (k + 1) := by
  have hl : k < s.data.toList.length := h
  refine ⟨s.data.toList[k], List.getElem?_eq_getElem hl, (b_some (List.getElem?_eq_getElem hl)).2, List.drop_eq_getElem_cons hl⟩
theorem b_ext (s : ByteArray) (a b : Nat) : (s.extract a b).data.toList = (s.data.toList.drop a).take (b - a) := by
  rw [ByteArray.data_extract, Array.toList_extract, List.extract_eq_take_drop]
theorem b_take (s : ByteArray) (n : Nat) : (s.extract 0 n).data.toList = s.data.toList.take n := by
  rw [b_ext]
  simp
theorem b_drop (s : ByteArray) (n : Nat) : (s.extract n s.size).data.toList = s.data.toList.drop n := by
  rw [b_ext, List.take_of_length_le]
  rw [List.length_drop]
  exact Nat.le_refl _
theorem b_eq {a b : ByteArray} (h : a.data.toList = b.data.toList) : a = b := by
  obtain ⟨⟨a⟩⟩ := a
  obtain ⟨⟨b⟩⟩ := b
  simp only at h
  rw [h]
theorem b_empty (t : ByteArray) : t.toList.isEmpty = t.data.toList.isEmpty := by rw [ByteArray.toList_eq]
theorem b_size (t : ByteArray) : t.size = t.data.toList.length := rfl
theorem b_cons {t : ByteArray} {c : UInt8} {r : List UInt8} (h : t.data.toList = c :: r) : t.size = r.length + 1 ∧ bt t 0 = (c.toNat : Int) ∧ t.toList.isEmpty = false ∧ (t.extract 1 t.size).data.toList = r := by
  have h1 : t.size = r.length + 1 := by rw [b_size, h]; rfl
  refine ⟨h1, (b_some (k := 0) (by rw [h]; rfl)).2, by rw [b_empty, h]; rfl, by rw [b_drop, h]; rfl⟩
end Go.Proofs.YtbofobakphlpbaaDoor
