/-
  head.Write and the reference's HeadWrite where they refuse at once: a form or kind that is none, fields that a form lacks. No conditions but the texts' bounds.
-/
import Derived.Test.YtnbcbipigiopbaaGreatDoorPkB
import Derived.Test.YtnbcbipigiopbaaGreatDoorPkC
import Derived.Test.YtnbcbipigiopbaaGreatDoorPkD
import Derived.Test.YtnbcbipigiopbaaGreatDoorHeadWr
namespace Go.Proofs.YtnbcbipigiopbaaGreatDoor
open Go.RowKit Go.WideShapes

set_option maxHeartbeats 1600000 in
set_option maxRecDepth 100000 in
theorem headWr_arg (nm lk us gr fr : ByteArray) (kd md ui gi sz tm ma mi f : Int) (h : f < 1 ∨ 4 < f ∨ kd = 0) (w : World) :
    Calls Tryz.prog 60 #[.int .i64 f, .agg #[.string nm, .string lk, .string us, .string gr, .string fr, .int .u8 kd, .int .i64 md, .int .i64 ui, .int .i64 gi, .int .i64 sz, .int .i64 tm, .int .i64 ma, .int .i64 mi]] w fun e w' => e = .returned (.tuple #[.string ⟨#[]⟩, errOf 1]) ∧ Ext w w' := by
  by_cases h1 : f < 1
  · clear h
    go_enter Tryz.func60, Tryz.ntmps60
    go_wp2_with fail
    go_ret2
    exact ⟨rfl, (by show Below _ _ _; repeat' (first | (with_reducible exact Below.refl _ _) | (with_reducible assumption) | (with_reducible refine belowDrewN ?_ _) | (with_reducible refine Below.alloc ?_ ?_ _) | (with_reducible refine Below.drew ?_) | (with_reducible refine Below.setCell ?_ ?_ _) | go_size))⟩
  · by_cases h4 : 4 < f
    · clear h
      go_enter Tryz.func60, Tryz.ntmps60
      go_wp2_with fail
      go_ret2
      exact ⟨rfl, (by show Below _ _ _; repeat' (first | (with_reducible exact Below.refl _ _) | (with_reducible assumption) | (with_reducible refine belowDrewN ?_ _) | (with_reducible refine Below.alloc ?_ ?_ _) | (with_reducible refine Below.drew ?_) | (with_reducible refine Below.setCell ?_ ?_ _) | go_size))⟩
    · obtain rfl : kd = 0 := by omega
      clear h
      go_enter Tryz.func60, Tryz.ntmps60
      go_wp2_with fail
      go_ret2
      exact ⟨rfl, (by show Below _ _ _; repeat' (first | (with_reducible exact Below.refl _ _) | (with_reducible assumption) | (with_reducible refine belowDrewN ?_ _) | (with_reducible refine Below.alloc ?_ ?_ _) | (with_reducible refine Below.drew ?_) | (with_reducible refine Below.setCell ?_ ?_ _) | go_size))⟩
set_option maxHeartbeats 1600000 in
set_option maxRecDepth 100000 in
theorem headWr_range (nm lk us gr fr : ByteArray) (kd md ui gi sz tm ma mi f : Int) (hf1 : 1 ≤ f) (hf4 : f ≤ 4) (hk0 : 0 < kd) (h : fitsV f us gr fr ma mi = false) (w : World) :
    Calls Tryz.prog 60 #[.int .i64 f, .agg #[.string nm, .string lk, .string us, .string gr, .string fr, .int .u8 kd, .int .i64 md, .int .i64 ui, .int .i64 gi, .int .i64 sz, .int .i64 tm, .int .i64 ma, .int .i64 mi]] w fun e w' => e = .returned (.tuple #[.string ⟨#[]⟩, errOf 2]) ∧ Ext w w' := by
  have CF := fun w1 => fits_any nm lk us gr fr kd md ui gi sz tm ma mi f w1
  rw [h] at CF
  have HF := Lib.hid CF
  clear CF h
  go_enter Tryz.func60, Tryz.ntmps60
  go_wp2_with fail
  refine (HF.out _).mono ?_; rintro e w1 ⟨rfl, hx1⟩
  go_wp2_with fail
  go_ret2
  exact ⟨rfl, Ext.trans ((Ext.refl w).alloc _) hx1⟩

theorem empty3 (a b c : ByteArray) : (a ++ b ++ c).toList.isEmpty = (a.toList.isEmpty && b.toList.isEmpty && c.toList.isEmpty) := by
  simp only [ByteArray.toList_eq, ByteArray.data_append, Array.toList_append]
  cases a.data.toList <;> cases b.data.toList <;> cases c.data.toList <;> rfl
theorem fitsV_one (us gr fr : ByteArray) (ma mi : Int) : fitsV 1 us gr fr ma mi = ((us ++ gr ++ fr).toList.isEmpty && (ma == 0) && (mi == 0)) := by
  rw [empty3]
  unfold fitsV
  rw [if_pos rfl]
  have e : ∀ a : ByteArray, (a.toList == (⟨#[]⟩ : ByteArray).toList) = a.toList.isEmpty := fun a => by
    rw [show (⟨#[]⟩ : ByteArray).toList = [] from by decide +kernel]
    cases a.toList <;> rfl
  rw [e, e, e]
theorem fitsV_three (us gr fr : ByteArray) (ma mi : Int) : fitsV 3 us gr fr ma mi = fr.toList.isEmpty := by
  unfold fitsV
  rw [if_neg (by decide), if_pos rfl]
theorem fitsV_other {f : Int} (h1 : f ≠ 1) (h3 : f ≠ 3) (us gr fr : ByteArray) (ma mi : Int) : fitsV f us gr fr ma mi = true := by
  unfold fitsV
  rw [if_neg h1, if_neg h3]

set_option maxHeartbeats 1600000 in
set_option maxRecDepth 100000 in
theorem refHW_arg (nm lk us gr fr : ByteArray) (kd md ui gi sz tm ma mi f : Int) (h : f < 1 ∨ 4 < f ∨ kd = 0) (w : World) :
    Calls Tryz.prog 49 #[.int .i64 f, .agg #[.string nm, .string lk, .string us, .string gr, .string fr, .int .u8 kd, .int .i64 md, .int .i64 ui, .int .i64 gi, .int .i64 sz, .int .i64 tm, .int .i64 ma, .int .i64 mi]] w fun e w' => e = .returned (.tuple #[.string ⟨#[]⟩, .int .i64 1]) ∧ Ext w w' := by
  by_cases h1 : f < 1 ∨ 4 < f
  · have cn := fun w => within_no' (n := f) (low := 1) (high := 4) (by omega) w
    clear h
    go_enter Tryz.func49, Tryz.ntmps49
    go_wp2_with (first | ((with_reducible refine (cn _).mono ?_); rintro e w' ⟨rfl, hw⟩; subst w'))
    go_ret2
    exact ⟨rfl, (by show Below _ _ _; repeat' (first | (with_reducible exact Below.refl _ _) | (with_reducible assumption) | (with_reducible refine belowDrewN ?_ _) | (with_reducible refine Below.alloc ?_ ?_ _) | (with_reducible refine Below.drew ?_) | (with_reducible refine Below.setCell ?_ ?_ _) | go_size))⟩
  · have cy := fun w => within_yes' (n := f) (low := 1) (high := 4) (by omega) (by omega) w
    obtain rfl : kd = 0 := by omega
    clear h
    go_enter Tryz.func49, Tryz.ntmps49
    go_wp2_with (first | ((with_reducible refine (cy _).mono ?_); rintro e w' ⟨rfl, hw⟩; subst w'))
    go_ret2
    exact ⟨rfl, (by show Below _ _ _; repeat' (first | (with_reducible exact Below.refl _ _) | (with_reducible assumption) | (with_reducible refine belowDrewN ?_ _) | (with_reducible refine Below.alloc ?_ ?_ _) | (with_reducible refine Below.drew ?_) | (with_reducible refine Below.setCell ?_ ?_ _) | go_size))⟩
set_option maxHeartbeats 1600000 in
set_option maxRecDepth 100000 in
theorem refHW_range (nm lk us gr fr : ByteArray) (kd md ui gi sz tm ma mi f : Int) (hf1 : 1 ≤ f) (hf4 : f ≤ 4) (hk : (kd == 0) = false) (hu : us.size ≤ 1000) (hg : gr.size ≤ 1000) (hr : fr.size ≤ 1000) (h : fitsV f us gr fr ma mi = false) (w : World) :
    Calls Tryz.prog 49 #[.int .i64 f, .agg #[.string nm, .string lk, .string us, .string gr, .string fr, .int .u8 kd, .int .i64 md, .int .i64 ui, .int .i64 gi, .int .i64 sz, .int .i64 tm, .int .i64 ma, .int .i64 mi]] w fun e w' => e = .returned (.tuple #[.string ⟨#[]⟩, .int .i64 2]) ∧ Ext w w' := by
  have cy := fun w => within_yes' (n := f) (low := 1) (high := 4) (by omega) (by omega) w
  by_cases h1 : f = 1
  · subst h1
    rw [fitsV_one] at h
    cases hq : (us ++ gr ++ fr).toList.isEmpty with
    | false =>
      clear h
      go_enter Tryz.func49, Tryz.ntmps49
      go_wp2_with (first | ((with_reducible refine (cy _).mono ?_); rintro e w' ⟨rfl, hw⟩; subst w'))
      go_ret2
      exact ⟨rfl, (by show Below _ _ _; repeat' (first | (with_reducible exact Below.refl _ _) | (with_reducible assumption) | (with_reducible refine belowDrewN ?_ _) | (with_reducible refine Below.alloc ?_ ?_ _) | (with_reducible refine Below.drew ?_) | (with_reducible refine Below.setCell ?_ ?_ _) | go_size))⟩
    | true =>
      rw [hq, Bool.true_and] at h
      cases ha : ma == 0 with
      | false =>
        have ha2 : (ma != 0) = true := by simp [bne, ha]
        clear h
        go_enter Tryz.func49, Tryz.ntmps49
        go_wp2_with (first | ((with_reducible refine (cy _).mono ?_); rintro e w' ⟨rfl, hw⟩; subst w'))
        go_ret2
        exact ⟨rfl, (by show Below _ _ _; repeat' (first | (with_reducible exact Below.refl _ _) | (with_reducible assumption) | (with_reducible refine belowDrewN ?_ _) | (with_reducible refine Below.alloc ?_ ?_ _) | (with_reducible refine Below.drew ?_) | (with_reducible refine Below.setCell ?_ ?_ _) | go_size))⟩
      | true =>
        rw [ha, Bool.true_and] at h
        obtain rfl : ma = 0 := by simpa using ha
        have h2 : (mi != 0) = true := by simp [bne, h]
        go_enter Tryz.func49, Tryz.ntmps49
        go_wp2_with (first | ((with_reducible refine (cy _).mono ?_); rintro e w' ⟨rfl, hw⟩; subst w'))
        go_ret2
        exact ⟨rfl, (by show Below _ _ _; repeat' (first | (with_reducible exact Below.refl _ _) | (with_reducible assumption) | (with_reducible refine belowDrewN ?_ _) | (with_reducible refine Below.alloc ?_ ?_ _) | (with_reducible refine Below.drew ?_) | (with_reducible refine Below.setCell ?_ ?_ _) | go_size))⟩
  · by_cases h3 : f = 3
    · subst h3
      rw [fitsV_three] at h
      go_enter Tryz.func49, Tryz.ntmps49
      go_wp2_with (first | ((with_reducible refine (cy _).mono ?_); rintro e w' ⟨rfl, hw⟩; subst w'))
      go_ret2
      exact ⟨rfl, (by show Below _ _ _; repeat' (first | (with_reducible exact Below.refl _ _) | (with_reducible assumption) | (with_reducible refine belowDrewN ?_ _) | (with_reducible refine Below.alloc ?_ ?_ _) | (with_reducible refine Below.drew ?_) | (with_reducible refine Below.setCell ?_ ?_ _) | go_size))⟩
    · rw [fitsV_other h1 h3] at h
      cases h
end Go.Proofs.YtnbcbipigiopbaaGreatDoor
/-
  Sizes of padded texts and of a form's mark; an empty text. No conditions.
-/
namespace Go.Proofs.YtnbcbipigiopbaaGreatDoor
open Go.RowKit Go.WideShapes Go.PlainAid

theorem sumE_size {s : ByteArray} (h : sumE s = 0) : s.size = 512 := by
  unfold sumE at h
  by_cases e : s.size = 512
  · exact e
  · rw [if_neg e] at h
    cases h
theorem pad_le (s : ByteArray) (n : Nat) (h : n ≤ 200) : (if fitS s n = true then padV s n else ⟨#[]⟩).size ≤ 200 := by
  by_cases e : fitS s n = true
  · rw [if_pos e]
    have h1 := fit_size e
    unfold padV
    have h2 : (⟨(List.replicate (n - s.size) (0 : UInt8)).toArray⟩ : ByteArray).size = n - s.size := by
      show Array.size _ = _
      rw [List.size_toArray, List.length_replicate]
    rw [ByteArray.size_append, h2]
    omega
  · rw [if_neg e]
    decide
theorem magic_le (f : Int) : (magicV f).size ≤ 8 := by
  unfold magicV
  split
  · decide
  · split <;> decide
theorem empty_eq {a : ByteArray} (h : a.toList.isEmpty = true) : a = ⟨#[]⟩ := by
  rw [ByteArray.toList_eq] at h
  obtain ⟨⟨l⟩⟩ := a
  cases l with
  | nil => rfl
  | cons x t => cases h
end Go.Proofs.YtnbcbipigiopbaaGreatDoor
