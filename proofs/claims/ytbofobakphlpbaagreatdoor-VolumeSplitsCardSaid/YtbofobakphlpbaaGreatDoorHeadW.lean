/-
  head.Write's callees: fits, texts, numbers.
-/
import Derived.Test.YtbofobakphlpbaaGreatDoorNum
import Derived.Test.YtbofobakphlpbaaGreatDoorFits
import Derived.BigRegion
namespace Go.Proofs.YtbofobakphlpbaaGreatDoor
open Go.RowKit Go.WideShapes

/-- Has the dialect all fields that are set? -/
def fitsV (f : Int) (us gr fr : ByteArray) (ma mi : Int) : Bool :=
  if f = 1 then (us.toList == (⟨#[]⟩ : ByteArray).toList) && (gr.toList == (⟨#[]⟩ : ByteArray).toList) && (fr.toList == (⟨#[]⟩ : ByteArray).toList) && (ma == 0) && (mi == 0)
  else if f = 3 then fr.toList.isEmpty else true
theorem eqlRaw (us gr fr : ByteArray) (ma mi : Int) (w : World) : (Op.equalIn 10000 39 (.agg #[.string ⟨#[]⟩, .string ⟨#[]⟩, .string us, .string gr, .string fr, .int .u8 0, .int .i64 0, .int .i64 0, .int .i64 0, .int .i64 0, .int .i64 0, .int .i64 ma, .int .i64 mi])
      (.agg #[.string ⟨#[]⟩, .string ⟨#[]⟩, .string ⟨#[]⟩, .string ⟨#[]⟩, .string ⟨#[]⟩, .int .u8 0, .int .i64 0, .int .i64 0, .int .i64 0, .int .i64 0, .int .i64 0, .int .i64 0, .int .i64 0])).run Tryz.prog w
      = .ok ((us.toList == (⟨#[]⟩ : ByteArray).toList) && (gr.toList == (⟨#[]⟩ : ByteArray).toList) && (fr.toList == (⟨#[]⟩ : ByteArray).toList) && (ma == 0) && (mi == 0)) w :=
  eql13d 9999 us gr fr ma mi w
    (fun x y => by rw [show (9999 : Nat) = 9998 + 1 from rfl, run_equalIn_string w 9998 _ _ _ Tryz.underlying9])
    (fun x y => by rw [show (9999 : Nat) = 9998 + 1 from rfl, run_equalIn_int w 9998 _ .i64 .i64 _ _ Tryz.underlying3])
    (fun x y => by rw [show (9999 : Nat) = 9998 + 1 from rfl, run_equalIn_int w 9998 _ .u8 .u8 _ _ Tryz.underlying5])

set_option maxHeartbeats 1600000 in
set_option maxRecDepth 100000 in
theorem fits_any (nm lk us gr fr : ByteArray) (kd md ui gi sz tm ma mi f : Int) (w : World) : Calls Tryz.prog 61 #[.agg #[.string nm, .string lk, .string us, .string gr, .string fr, .int .u8 kd, .int .i64 md, .int .i64 ui, .int .i64 gi, .int .i64 sz, .int .i64 tm, .int .i64 ma, .int .i64 mi], .int .i64 f] w fun e w' => e = .returned (.bool (fitsV f us gr fr ma mi)) ∧ Ext w w' := by
  have Q : ∀ W, _ := eqlRaw us gr fr ma mi
  by_cases h : f = 1
  · subst h
    have hv : Hid (fitsV 1 us gr fr ma mi = ((us.toList == (⟨#[]⟩ : ByteArray).toList) && (gr.toList == (⟨#[]⟩ : ByteArray).toList) && (fr.toList == (⟨#[]⟩ : ByteArray).toList) && (ma == 0) && (mi == 0))) := Lib.hid rfl
    rw [hv.out]
    generalize ((us.toList == (⟨#[]⟩ : ByteArray).toList) && (gr.toList == (⟨#[]⟩ : ByteArray).toList) && (fr.toList == (⟨#[]⟩ : ByteArray).toList) && (ma == 0) && (mi == 0)) = b at *
    go_enter Tryz.func61, Tryz.ntmps61
    go_wp2_with fail
    go_ret
    exact ⟨rfl, (by show Below _ _ _; repeat' (first | (with_reducible exact Below.refl _ _) | (with_reducible assumption) | (with_reducible refine belowDrewN ?_ _) | (with_reducible refine Below.alloc ?_ ?_ _) | (with_reducible refine Below.drew ?_) | (with_reducible refine Below.setCell ?_ ?_ _) | go_size))⟩
  · have q1 : (f == 1) = false := by simpa using h
    by_cases h3 : f = 3
    · subst h3
      have hv : Hid (fitsV 3 us gr fr ma mi = fr.toList.isEmpty) := Lib.hid rfl
      rw [hv.out]
      go_enter Tryz.func61, Tryz.ntmps61
      go_wp2_with fail
      go_ret
      exact ⟨ret_bool (by simp), (by show Below _ _ _; repeat' (first | (with_reducible exact Below.refl _ _) | (with_reducible assumption) | (with_reducible refine belowDrewN ?_ _) | (with_reducible refine Below.alloc ?_ ?_ _) | (with_reducible refine Below.drew ?_) | (with_reducible refine Below.setCell ?_ ?_ _) | go_size))⟩
    · have q3 : (f == 3) = false := by simpa using h3
      have hv : Hid (fitsV f us gr fr ma mi = true) := Lib.hid (by unfold fitsV; rw [if_neg h, if_neg h3])
      rw [hv.out]
      clear h h3
      go_enter Tryz.func61, Tryz.ntmps61
      go_wp2_with fail
      go_ret
      exact ⟨rfl, (by show Below _ _ _; repeat' (first | (with_reducible exact Below.refl _ _) | (with_reducible assumption) | (with_reducible refine belowDrewN ?_ _) | (with_reducible refine Below.alloc ?_ ?_ _) | (with_reducible refine Below.drew ?_) | (with_reducible refine Below.setCell ?_ ?_ _) | go_size))⟩

def textsV (r : Nat) : Value := .agg #[.pointer (some ⟨r, 0, none⟩), .pointer (some ⟨r, 1, none⟩), .pointer (some ⟨r, 2, none⟩), .pointer (some ⟨r, 3, none⟩), .pointer (some ⟨r, 4, none⟩)]
def numbersV (r : Nat) : Value := .agg #[.pointer (some ⟨r, 6, none⟩), .pointer (some ⟨r, 7, none⟩), .pointer (some ⟨r, 8, none⟩), .pointer (some ⟨r, 9, none⟩), .pointer (some ⟨r, 10, none⟩), .pointer (some ⟨r, 11, none⟩), .pointer (some ⟨r, 12, none⟩)]
set_option maxHeartbeats 1600000 in
set_option maxRecDepth 100000 in
theorem texts_any (r : Nat) (w : World) : Calls Tryz.prog 38 #[.pointer (some ⟨r, 0, none⟩)] w fun e w' => e = .returned (textsV r) ∧ Ext w w' := by
  go_enter Tryz.func38, Tryz.ntmps38
  go_wp2_with fail
  go_region
  all_goals
    go_wp2_with fail
    refine bodyPost_ret (v := textsV r) ?_ rfl ⟨rfl, (by show Below _ _ _; repeat' (first | (with_reducible exact Below.refl _ _) | (with_reducible assumption) | (with_reducible refine belowDrewN ?_ _) | (with_reducible refine Below.alloc ?_ ?_ _) | (with_reducible refine Below.drew ?_) | (with_reducible refine Below.setCell ?_ ?_ _) | go_size))⟩
    simp [results, Tryz.results38, go_sem, textsV]
set_option maxHeartbeats 4000000 in
set_option maxRecDepth 100000 in
theorem numbers_any (r : Nat) (w : World) : Calls Tryz.prog 34 #[.pointer (some ⟨r, 0, none⟩)] w fun e w' => e = .returned (numbersV r) ∧ Ext w w' := by
  go_enter Tryz.func34, Tryz.ntmps34
  go_wp2_with fail
  go_region
  all_goals
    go_wp2_with fail
    refine bodyPost_ret (v := numbersV r) ?_ rfl ⟨rfl, (by show Below _ _ _; repeat' (first | (with_reducible exact Below.refl _ _) | (with_reducible assumption) | (with_reducible refine belowDrewN ?_ _) | (with_reducible refine Below.alloc ?_ ?_ _) | (with_reducible refine Below.drew ?_) | (with_reducible refine Below.setCell ?_ ?_ _) | go_size))⟩
    simp [results, Tryz.results34, go_sem, numbersV]
end Go.Proofs.YtbofobakphlpbaaGreatDoor
