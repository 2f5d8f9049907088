/-
  A text up to its first byte 0, by strings.Cut and by strings.Split. No conditions but the text's length.
-/
import Derived.Test.YtiiaoagobjgkiaaGreatDoorParts
import Derived.PlainAid
import Derived.Lib.SplitLaws
import Derived.Lib.IndexBytes
namespace Go.Proofs.YtiiaoagobjgkiaaGreatDoor
open Go.RowKit Go.WideShapes Go.PlainAid

/-- A text up to its first byte 0. -/
def cutZ (t : ByteArray) : ByteArray := ⟨(Lib.cut t.data.toList [0]).1.toArray⟩
theorem zB_data (t : ByteArray) : Lib.indexB t ⟨#[0]⟩ = Lib.index t.data.toList [0] := rfl
theorem split_head (t : ByteArray) : (Lib.splitB ⟨#[0]⟩ 0 (Lib.countB t ⟨#[0]⟩) t)[0]? = some (cutZ t) := by
  have hg := Lib.indexByte_ge t.data.toList 0
  have hix : Lib.index t.data.toList [0] = Lib.indexByte t.data.toList 0 := Lib.index_one _ _
  by_cases h : Lib.indexByte t.data.toList 0 = -1
  · rw [Lib.splitB_miss _ _ _ _ (by rw [zB_data, hix, h])]
    have : cutZ t = t := by
      unfold cutZ Lib.cut
      rw [hix, h, if_neg (by decide)]
    rw [this]
    rfl
  · obtain ⟨i, hi⟩ : ∃ i : Nat, Lib.indexByte t.data.toList 0 = (i : Int) := ⟨(Lib.indexByte t.data.toList 0).toNat, by omega⟩
    have h1 : Lib.index t.data.toList [0] = (i : Int) := by rw [hix, hi]
    have hc : ∃ k, Lib.countB t ⟨#[0]⟩ = k + 1 := by
      have := Lib.count_hit (sub := [0]) (by simp) h1
      exact ⟨_, (show Lib.count t.data.toList [0] = _ from this).trans (Nat.add_comm _ _)⟩
    obtain ⟨k, hk⟩ := hc
    rw [hk, Lib.splitB_hit _ _ _ _ i (by rw [zB_data, h1])]
    have : cutZ t = t.extract 0 (i + 0) := by
      unfold cutZ Lib.cut
      rw [h1, if_pos (by omega)]
      apply ByteArray.ext
      apply Array.toList_inj.1
      rw [ByteArray.data_extract, Array.toList_extract, List.extract_eq_take_drop]
      simp
    rw [this]
    rfl
theorem cut_any (t : ByteArray) (ht : t.size ≤ 100000) (w : World) (hm : HasMax w) : Calls Tryz.prog 121 #[.string t, .string ⟨#[0]⟩] w fun e w' =>
    ∃ (b : ByteArray) (c : Bool), e = .returned (.tuple #[.string (cutZ t), .string b, .bool c]) ∧ Ext w w' := by
  obtain ⟨m, hm⟩ := hm
  refine (Tryz.strings_Cut t ⟨#[0]⟩ m w (by omega) hm).mono ?_
  rintro e w' ⟨rfl, n, rfl⟩
  exact ⟨_, _, rfl, (Ext.refl w).drewN n⟩
theorem splitZ_any (t : ByteArray) (ht : t.size ≤ 100000) (w : World) (hm : HasMax w) : Calls Tryz.prog 73 #[.string t, .string ⟨#[0]⟩] w fun e w' =>
    ∃ n : Nat, e = .returned (.slice (some ⟨w.heap.size, 0, none⟩) (n + 1) (n + 1)) ∧ w'.cell? ⟨w.heap.size, 0, none⟩ = some (.string (cutZ t)) ∧ Ext w w' := by
  obtain ⟨m, hm⟩ := hm
  have h := Tryz.strings_Split t ⟨#[0]⟩ m w (by omega) hm (by decide)
  refine h.mono ?_
  rintro e w' ⟨rfl, rfl⟩
  have hh := split_head t
  refine ⟨Lib.countB t ⟨#[0]⟩, rfl, ?_, (Ext.refl w).alloc _⟩
  simp [hh]
end Go.Proofs.YtiiaoagobjgkiaaGreatDoor
