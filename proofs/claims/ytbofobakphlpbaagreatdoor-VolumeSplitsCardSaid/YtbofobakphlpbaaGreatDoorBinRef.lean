/-
  The reference's Binary.
-/
import Derived.Test.YtbofobakphlpbaaGreatDoorBin
namespace Go.Proofs.YtbofobakphlpbaaGreatDoor
open Go.RowKit Go.PlainAid

theorem one_yes (w : World) : Calls Tryz.prog 45 #[.bool true] w fun e w' => e = .returned (.int .i64 1) ∧ w' = w := by
  go_enter Tryz.func45, Tryz.ntmps45
  go_wp2_with fail
  go_ret
  exact ⟨rfl, rfl⟩
theorem one_no (w : World) : Calls Tryz.prog 45 #[.bool false] w fun e w' => e = .returned (.int .i64 0) ∧ w' = w := by
  go_enter Tryz.func45, Tryz.ntmps45
  go_wp2_with fail
  go_ret
  exact ⟨rfl, rfl⟩
theorem char_any (v : Int) (h0 : 0 ≤ v) (h1 : v < 256) (w : World) : Calls Tryz.prog 58 #[.int .i64 v] w fun e w' => e = .returned (.string ⟨#[UInt8.ofNat v.toNat]⟩) ∧ Ext w w' := by
  have hv : (((UInt8.ofNat v.toNat).toNat : Nat) : Int) = v := by rw [UInt8.toNat_ofNat']; omega
  have hc := run_convert_bytes_back (P := Tryz.prog) (w.alloc (.cells #[.int .u8 v] 5)) 113 9 5 ⟨w.heap.size, 0, none⟩ 1 [UInt8.ofNat v.toNat] Tryz.underlying113 Tryz.underlying5 Tryz.underlying9 (by
    intro j hj
    obtain rfl : j = 0 := by simp at hj; omega
    have e : Addr.add ⟨w.heap.size, 0, none⟩ 0 = ⟨w.heap.size, 0, none⟩ := by simp [Addr.add]
    rw [e]
    refine (World.cell?_alloc_mark w #[.int .u8 v] 5 (0, 0) 0).trans ?_
    exact congrArg (fun x => some (Value.int .u8 x)) hv.symm)
  simp only [List.length_singleton] at hc
  have hw : v % 256 = v := by omega
  clear hv
  go_enter Tryz.func58, Tryz.ntmps58
  go_wp2_with fail
  go_ret
  exact ⟨rfl, (by show Below _ _ _; repeat' (first | (with_reducible exact Below.refl _ _) | (with_reducible assumption) | (with_reducible refine belowDrewN ?_ _) | (with_reducible refine Below.alloc ?_ ?_ _) | (with_reducible refine Below.drew ?_) | (with_reducible refine Below.setCell ?_ ?_ _) | go_size))⟩

def uK (n : Int) : Nat → Int
  | 0 => n % 18446744073709551616
  | k + 1 => uK n k / 256
theorem uK_lo (n : Int) : ∀ k, 0 ≤ uK n k
  | 0 => by simp only [uK]; omega
  | k + 1 => by have := uK_lo n k; simp only [uK]; omega
theorem uK_hi (n : Int) : ∀ k, uK n k < 18446744073709551616
  | 0 => by simp only [uK]; omega
  | k + 1 => by have := uK_lo n k; have := uK_hi n k; simp only [uK]; omega
theorem uK_byte (n : Int) (k : Nat) (h : k < 8) : uK n k % 256 = byteAt n k := by
  unfold byteAt
  rcases (show k = 0 ∨ k = 1 ∨ k = 2 ∨ k = 3 ∨ k = 4 ∨ k = 5 ∨ k = 6 ∨ k = 7 by omega) with rfl | rfl | rfl | rfl | rfl | rfl | rfl | rfl
  · rw [show (2 : Int) ^ min (8 * 0) 64 = 1 by decide]; simp only [uK]; omega
  · rw [show (2 : Int) ^ min (8 * 1) 64 = 256 by decide]; simp only [uK]; omega
  · rw [show (2 : Int) ^ min (8 * 2) 64 = 65536 by decide]; simp only [uK]; omega
  · rw [show (2 : Int) ^ min (8 * 3) 64 = 16777216 by decide]; simp only [uK]; omega
  · rw [show (2 : Int) ^ min (8 * 4) 64 = 4294967296 by decide]; simp only [uK]; omega
  · rw [show (2 : Int) ^ min (8 * 5) 64 = 1099511627776 by decide]; simp only [uK]; omega
  · rw [show (2 : Int) ^ min (8 * 6) 64 = 281474976710656 by decide]; simp only [uK]; omega
  · rw [show (2 : Int) ^ min (8 * 7) 64 = 72057594037927936 by decide]; simp only [uK]; omega
theorem byteAt_neg {n : Int} {k : Nat} (h : 8 ≤ k) (h1 : n < 0) (h2 : -9223372036854775808 ≤ n) : byteAt n k = 255 := by
  rw [byteAt_big h]; unfold sh64
  rw [show (2 : Int) ^ 64 = 18446744073709551616 by decide]; omega
theorem byteAt_pos {n : Int} {k : Nat} (h : 8 ≤ k) (h1 : 0 ≤ n) (h2 : n ≤ 9223372036854775807) : byteAt n k = 0 := by
  rw [byteAt_big h]; unfold sh64
  rw [show (2 : Int) ^ 64 = 18446744073709551616 by decide]; omega

theorem p55 (w : World) : Calls Tryz.prog 76 #[.int .i64 2, .int .i64 55] w fun e w' => e = .returned (.int .i64 36028797018963968) ∧ w' = w := by
  have := power_same 2 55 (by omega) (by omega) (by decide) w
  rw [show ((pw 2 55 : Nat) : Int) = 36028797018963968 by decide] at this
  exact this
theorem str_cons (b : UInt8) (l : List UInt8) : (⟨#[b]⟩ : ByteArray) ++ ⟨l.toArray⟩ = ⟨(b :: l).toArray⟩ := by
  apply ByteArray.ext
  simp

set_option maxRecDepth 100000 in
theorem refBinary_good (n : Int) (W : Nat) (w : World) (h1 : 8 ≤ W) (h2 : W ≤ 20) (hr : W = 8 → -36028797018963968 ≤ n ∧ n ≤ 36028797018963967) (hn1 : -9223372036854775808 ≤ n) (hn2 : n ≤ 9223372036854775807) :
    Calls Tryz.prog 93 #[.int .i64 n, .int .i64 (W : Int)] w fun e w' => e = .returned (.tuple #[.string (binV n W), .int .i64 0]) ∧ Ext w w' := by
  have g1 : (8 : Int) ≤ (W : Int) := by omega
  have g2 : (W : Int) ≤ 20 := by omega
  have hsz : 0 < W := by omega
  have hu : IntKind.u64.wrap n = uK n 0 := by rw [IntKind.wrap_u64]; rfl
  rcases (show ((W : Int) == 8) = false ∨ (((W : Int) == 8) = true ∧ -36028797018963968 ≤ n ∧ n ≤ 36028797018963967) by
      by_cases e : W = 8
      · right; exact ⟨by simp; omega, by have := hr e; omega⟩
      · left; simp; omega) with h8 | ⟨h8, h9, h10⟩
  all_goals
    clear hr
    go_enter Tryz.func93, Tryz.ntmps93
    go_wp2_with (first | ((with_reducible refine (within_yes' g1 g2 _).mono ?_); rintro e w' ⟨rfl, hw⟩; subst w') | ((with_reducible refine (p55 _).mono ?_); rintro e w' ⟨rfl, hw⟩; subst w') | ((with_reducible refine (within_yes' h9 h10 _).mono ?_); rintro e w' ⟨rfl, hw⟩; subst w'))
    go_loopw [6, 7, 8] (fun u st i w' => ∃ k : Nat, k < W ∧ u = .int .u64 (uK n k) ∧ st = .string ⟨(low n k).toArray⟩ ∧ i = .int .i64 ((k : Int) + 1) ∧ Ext w w') (fun _ _ i _ => (W + 1 - intOf i).toNat)
    case atStart => exact ⟨0, hsz, rfl, rfl, rfl, Ext.refl _⟩
    case round =>
      obtain ⟨k, hk, rfl, rfl, rfl, hx⟩ := hrel
      have l1 := uK_lo n k
      have l2 := uK_hi n k
      have b1 := byteAt_lo n k
      have b2 := byteAt_hi n k
      by_cases hlt : (k : Int) + 1 < (W : Int)
      · have hu1 : uK n k / 256 = uK n (k + 1) := rfl
        have hsl : (⟨(low n k).toArray⟩ : ByteArray).size = k := by show (low n k).toArray.size = k; simp [low_length]
        by_cases h88 : k < 8
        · have hub := uK_byte n k h88
          have hmod : byteAt n k % 256 = byteAt n k := by omega
          have hi8 : (k : Int) + 1 ≤ 8 := by omega
          go_wp2_with ((refine (char_any _ b1 b2 _).mono ?_); rintro e w1 ⟨rfl, hx1⟩)
          go_roundw
          case rel => exact ⟨k + 1, by omega, rfl, congrArg Value.string (str_cons _ _), by go_num, hx.trans hx1⟩
          case measure => simp [intOf]; omega
        · have hi8 : 8 < (k : Int) + 1 := by omega
          by_cases hn : n < 0
          · have hby : Hid (byteU n k = 255) := Lib.hid (by unfold byteU; rw [byteAt_neg (by omega) hn hn1]; rfl)
            have c1 := char_any 255 (by omega) (by omega)
            go_wp2_with (first | ((with_reducible refine (one_yes _).mono ?_); rintro e w' ⟨rfl, hw⟩; subst w') | ((with_reducible refine (c1 _).mono ?_); rintro e w1 ⟨rfl, hx1⟩))
            go_roundw
            case rel => exact ⟨k + 1, by omega, rfl, congrArg Value.string (by rw [← hby.out]; exact str_cons _ _), by go_num, hx.trans hx1⟩
            case measure => simp [intOf]; omega
          · have hby : Hid (byteU n k = 0) := Lib.hid (by unfold byteU; rw [byteAt_pos (by omega) (by omega) hn2]; rfl)
            have c1 := char_any 0 (by omega) (by omega)
            go_wp2_with (first | ((with_reducible refine (one_no _).mono ?_); rintro e w' ⟨rfl, hw⟩; subst w') | ((with_reducible refine (c1 _).mono ?_); rintro e w1 ⟨rfl, hx1⟩))
            go_roundw
            case rel => exact ⟨k + 1, by omega, rfl, congrArg Value.string (by rw [← hby.out]; exact str_cons _ _), by go_num, hx.trans hx1⟩
            case measure => simp [intOf]; omega
      · have hk1 : Hid (k = W - 1) := Lib.hid (by omega)
        have hsl : (⟨(low n k).toArray⟩ : ByteArray).size = k := by show (low n k).toArray.size = k; simp [low_length]
        by_cases hn : n < 0
        · have hv : Hid ((⟨#[UInt8.ofNat (255 : Int).toNat]⟩ : ByteArray) ++ ⟨(low n k).toArray⟩ = binV n W) := Lib.hid (by rw [str_cons]; unfold binV topU; rw [if_pos hn, hk1.out]; rfl)
          have c1 := char_any 255 (by omega) (by omega)
          go_wp2_with (first | ((with_reducible refine (one_yes _).mono ?_); rintro e w' ⟨rfl, hw⟩; subst w') | ((with_reducible refine (c1 _).mono ?_); rintro e w1 ⟨rfl, hx1⟩))
          go_ret2
          exact ⟨ret_val (by rw [← hv.out]; rfl), hx.trans hx1⟩
        · have hv : Hid ((⟨#[UInt8.ofNat (128 : Int).toNat]⟩ : ByteArray) ++ ⟨(low n k).toArray⟩ = binV n W) := Lib.hid (by rw [str_cons]; unfold binV topU; rw [if_neg hn, hk1.out]; rfl)
          have c1 := char_any 128 (by omega) (by omega)
          go_wp2_with (first | ((with_reducible refine (one_no _).mono ?_); rintro e w' ⟨rfl, hw⟩; subst w') | ((with_reducible refine (c1 _).mono ?_); rintro e w1 ⟨rfl, hx1⟩))
          go_ret2
          exact ⟨ret_val (by rw [← hv.out]; rfl), hx.trans hx1⟩

set_option maxRecDepth 100000 in
theorem refBinary_arg (n W : Int) (w : World) (h : W < 8 ∨ 20 < W) :
    Calls Tryz.prog 93 #[.int .i64 n, .int .i64 W] w fun e w' => e = .returned (.tuple #[.string ⟨#[]⟩, .int .i64 1]) ∧ Ext w w' := by
  have c1 := within_no' (n := W) (low := 8) (high := 20) h
  clear h
  go_enter Tryz.func93, Tryz.ntmps93
  go_wp2_with ((refine (c1 _).mono ?_); rintro e w' ⟨rfl, hw⟩; subst w')
  go_ret2
  exact ⟨rfl, (by show Below _ _ _; repeat' (first | (with_reducible exact Below.refl _ _) | (with_reducible assumption) | (with_reducible refine belowDrewN ?_ _) | (with_reducible refine Below.alloc ?_ ?_ _) | (with_reducible refine Below.drew ?_) | (with_reducible refine Below.setCell ?_ ?_ _) | go_size))⟩
set_option maxRecDepth 100000 in
theorem refBinary_range (n : Int) (w : World) (h : n < -36028797018963968 ∨ 36028797018963967 < n) :
    Calls Tryz.prog 93 #[.int .i64 n, .int .i64 8] w fun e w' => e = .returned (.tuple #[.string ⟨#[]⟩, .int .i64 2]) ∧ Ext w w' := by
  have c1 := within_yes' (n := 8) (low := 8) (high := 20) (by omega) (by omega)
  have c2 := within_no' h
  clear h
  go_enter Tryz.func93, Tryz.ntmps93
  go_wp2_with (first | ((with_reducible refine (c1 _).mono ?_); rintro e w' ⟨rfl, hw⟩; subst w') | ((with_reducible refine (p55 _).mono ?_); rintro e w' ⟨rfl, hw⟩; subst w') | ((with_reducible refine (c2 _).mono ?_); rintro e w' ⟨rfl, hw⟩; subst w'))
  go_ret2
  exact ⟨rfl, (by show Below _ _ _; repeat' (first | (with_reducible exact Below.refl _ _) | (with_reducible assumption) | (with_reducible refine belowDrewN ?_ _) | (with_reducible refine Below.alloc ?_ ?_ _) | (with_reducible refine Below.drew ?_) | (with_reducible refine Below.setCell ?_ ?_ _) | go_size))⟩
set_option maxRecDepth 100000 in
theorem binary_arg (n W : Int) (w : World) (h : W < 8 ∨ 20 < W) :
    Calls Tryz.prog 96 #[.int .i64 n, .int .i64 W] w fun e w' => e = .returned (.tuple #[.string ⟨#[]⟩, .iface 23 (.int .i64 1)]) ∧ Ext w w' := by
  rcases (show W < 8 ∨ (8 ≤ W ∧ 20 < W) by omega) with h1 | ⟨h1, h2⟩ <;> clear h
  all_goals
    go_enter Tryz.func96, Tryz.ntmps96
    go_wp2_with fail
    go_ret2
    exact ⟨rfl, (by show Below _ _ _; repeat' (first | (with_reducible exact Below.refl _ _) | (with_reducible assumption) | (with_reducible refine belowDrewN ?_ _) | (with_reducible refine Below.alloc ?_ ?_ _) | (with_reducible refine Below.drew ?_) | (with_reducible refine Below.setCell ?_ ?_ _) | go_size))⟩
set_option maxRecDepth 100000 in
theorem binary_range (n : Int) (w : World) (h : n < -36028797018963968 ∨ 36028797018963967 < n) :
    Calls Tryz.prog 96 #[.int .i64 n, .int .i64 8] w fun e w' => e = .returned (.tuple #[.string ⟨#[]⟩, .iface 23 (.int .i64 2)]) ∧ Ext w w' := by
  rcases (show n < -36028797018963968 ∨ (-36028797018963968 ≤ n ∧ 36028797018963967 < n) by omega) with h1 | ⟨h1, h2⟩ <;> clear h
  all_goals
    go_enter Tryz.func96, Tryz.ntmps96
    go_wp2_with fail
    all_goals go_ret2
    all_goals exact ⟨rfl, (by show Below _ _ _; repeat' (first | (with_reducible exact Below.refl _ _) | (with_reducible assumption) | (with_reducible refine belowDrewN ?_ _) | (with_reducible refine Below.alloc ?_ ?_ _) | (with_reducible refine Below.drew ?_) | (with_reducible refine Below.setCell ?_ ?_ _) | go_size))⟩

/-- The three ways in one word. -/
theorem binary_ways (n W : Int) (hn1 : -9223372036854775808 ≤ n) (hn2 : n ≤ 9223372036854775807) : ∃ (s : ByteArray) (k : Int), s.size ≤ 100 ∧
    (∀ w, Calls Tryz.prog 96 #[.int .i64 n, .int .i64 W] w fun e w' => e = .returned (.tuple #[.string s, errOf k]) ∧ Ext w w') ∧
    (∀ w, Calls Tryz.prog 93 #[.int .i64 n, .int .i64 W] w fun e w' => e = .returned (.tuple #[.string s, .int .i64 k]) ∧ Ext w w') := by
  by_cases h : W < 8 ∨ 20 < W
  · exact ⟨⟨#[]⟩, 1, by decide, fun w => binary_arg n W w h, fun w => refBinary_arg n W w h⟩
  · by_cases h8 : W = 8 ∧ (n < -36028797018963968 ∨ 36028797018963967 < n)
    · obtain ⟨rfl, h8⟩ := h8
      exact ⟨⟨#[]⟩, 2, by decide, fun w => binary_range n w h8, fun w => refBinary_range n w h8⟩
    · obtain ⟨W, rfl⟩ := Int.eq_ofNat_of_zero_le (show 0 ≤ W by omega)
      refine ⟨binV n W, 0, ?_, fun w => binary_good n W w (by omega) (by omega) (by omega), fun w => refBinary_good n W w (by omega) (by omega) (by omega) hn1 hn2⟩
      show (topU n :: low n (W - 1)).toArray.size ≤ 100
      simp [low_length]; omega
end Go.Proofs.YtbofobakphlpbaaGreatDoor
