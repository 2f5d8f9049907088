/-
  Small contracts for the reference's EntryRight.
-/
import Derived.Test.YtnbcbipigiopbaaGreatDoorMemP
import Derived.PlainAid
namespace Go.Proofs.YtnbcbipigiopbaaGreatDoor
open Go.RowKit Go.PlainAid

theorem refPlain_same (s : ByteArray) (most : Int) (w : World) : Calls Tryz.prog 70 #[.string s, .int .i64 most] w fun e w' => e = .returned (.bool (txB s most)) ∧ w' = w := by
  have c1 := fun w => Tryz.strings_Contains_one s 0 w
  have C1 := Lib.hid c1
  clear c1
  have hd : Hid (txB s most = (decide ((s.size : Int) ≤ most) && !decide (0 ≤ Lib.indexByte s.data.toList 0))) := Lib.hid (by
    unfold txB zi
    congr 1
    rw [Bool.eq_iff_iff]; simp)
  rw [hd.out]
  go_enter Tryz.func70, Tryz.ntmps70
  go_wp2_with ((with_reducible refine (C1.out _).mono ?_); rintro e w1 ⟨rfl, rfl⟩)
  all_goals
    go_ret
    exact ⟨ret_bool (by simp [*] <;> omega), rfl⟩
theorem suf_last {s : ByteArray} (h : 0 < s.size) : sufB s = (bt s (s.size - 1) == 47) := by
  obtain ⟨⟨l⟩⟩ := s
  have hl : 0 < l.length := h
  obtain ⟨t, x, rfl⟩ : ∃ (t : List UInt8) (x : UInt8), l = t ++ [x] := ⟨l.dropLast, l.getLast (by intro e; subst e; simp at hl), (List.dropLast_concat_getLast _).symm⟩
  have es : (⟨⟨t ++ [x]⟩⟩ : ByteArray).size - 1 = t.length := by simp [ByteArray.size]
  rw [es]
  have hb : bt ⟨⟨t ++ [x]⟩⟩ t.length = (x.toNat : Int) := by
    have hlt : t.length < (⟨⟨t ++ [x]⟩⟩ : ByteArray).size := by simp [ByteArray.size]
    rw [← get_bt _ t.length hlt]
    show (((t ++ [x]).toArray[t.length]'(by simp)).toNat : Int) = _
    simp
  rw [hb]
  unfold sufB Lib.hasSuffix
  rw [Bool.eq_iff_iff]
  simp
  constructor
  · rintro rfl; rfl
  · intro e
    exact (UInt8.toNat_inj.1 (by simp; omega)).symm
end Go.Proofs.YtnbcbipigiopbaaGreatDoor
