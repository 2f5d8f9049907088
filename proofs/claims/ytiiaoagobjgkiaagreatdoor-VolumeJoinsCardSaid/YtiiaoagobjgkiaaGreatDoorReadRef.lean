/-
  The reference's NumberRead at a field in octal digits.
-/
import Derived.Test.YtiiaoagobjgkiaaGreatDoorWideRef
import Derived.Test.YtiiaoagobjgkiaaGreatDoorShelf
namespace Go.Proofs.YtiiaoagobjgkiaaGreatDoor
open Go.RowKit Go.PlainAid

/-- The first loop: blanks in front go. -/
def RaRel (s : ByteArray) (u : Value) : Prop := ∃ t : ByteArray, u = .string t ∧ t.size ≤ s.size ∧ Hid (cutL t = cutL s)
/-- The second loop: blanks and bytes 0 behind go. -/
def RbRel (s : ByteArray) (u : Value) : Prop := ∃ t : ByteArray, u = .string t ∧ t.size ≤ s.size ∧ Hid (cutR t = cutR s)
/-- The third loop: the digits. -/
def RcRel (s : ByteArray) (nn i : Value) : Prop := ∃ (n : Int) (k : Nat), k ≤ s.size ∧ 0 ≤ n ∧ n ≤ 9223372036854775807 ∧ nn = .int .u64 n ∧ i = .int .i64 (k : Int) ∧ Hid (od s n k (s.size - k) = od s 0 0 s.size)
theorem mul64_8 (n : Int) (h0 : 0 ≤ n) (h1 : n ≤ 9223372036854775807) (w : World) : Calls Tryz.prog 110 #[.int .u64 n, .int .u64 8] w fun e w' => e = .returned (.tuple #[.int .u64 (n * 8 / 18446744073709551616), .int .u64 (n * 8 % 18446744073709551616)]) ∧ w' = w := by
  obtain ⟨k, rfl⟩ := Int.eq_ofNat_of_zero_le h0
  have := Tryz.bits_Mul64 k 8 (by omega) (by decide) w
  refine this.mono ?_
  rintro e w' ⟨rfl, hw⟩
  exact ⟨ret_val (by simp), hw⟩
theorem isEmpty_of {s : ByteArray} (h : s.size = 0) : s.toList.isEmpty = true := by
  rw [ByteArray.toList_eq]
  obtain ⟨⟨l⟩⟩ := s
  cases l with
  | nil => rfl
  | cons x t => exact absurd h (by simp [ByteArray.size])

/-- A text's length. -/
def szOf : Value → Nat
  | .string t => t.size
  | _ => 0

set_option maxHeartbeats 8000000 in
set_option maxRecDepth 100000 in
theorem refOct_any (s : ByteArray) (w : World) (h0 : 0 < s.size) (hs : s.size ≤ 100000) (h128 : bt s 0 < 128) : Calls Tryz.prog 75 #[.string s] w fun e w' => e = .returned (.tuple #[.int .i64 (od (cutF s) 0 0 (cutF s).size).1, .int .i64 (od (cutF s) 0 0 (cutF s).size).2]) ∧ Ext w w' := by
  have hb := get_bt s
  have h0' : (0 : Int) < s.size := by omega
  have hemp := notEmpty h0
  go_enter Tryz.func75, Tryz.ntmps75
  go_wp2_with fail
  go_loop [0] (fun u => RaRel s u) (fun u => szOf u)
  case atStart => exact ⟨s, rfl, Nat.le_refl _, Lib.hid rfl⟩
  case round =>
    obtain ⟨t, rfl, ht, hrel⟩ := hrel
    have hbt := get_bt t
    have fin : ∀ t : ByteArray, t.size ≤ s.size → cutL t = cutL s → (t.size = 0 ∨ bt t 0 ≠ 32) → Hid (cutL s = t.data.toList) := fun t _ h h2 => Lib.hid (by rw [← h, cutL_stop h2])
    have hdone : (t.size = 0 ∨ (0 < t.size ∧ bt t 0 ≠ 32)) → Hid (cutL s = t.data.toList) := fun h => Lib.hid (by rw [← hrel.out, cutL_stop (by rcases h with h | h; exact .inl h; exact .inr h.2)])
    clear fin
    rcases (show (0 < t.size ∧ bt t 0 = 32) ∨ (t.size = 0 ∨ (0 < t.size ∧ bt t 0 ≠ 32)) by omega) with ⟨hz, hsp⟩ | hno
    · have z1 := notEmpty hz
      have z2 : (!t.toList.isEmpty) = true := by rw [z1]; rfl
      have q1 : (bt t 0 == 32) = true := by simpa using hsp
      have hst := Lib.hid (cutL_step hz hsp)
      have hsz : (t.extract 1 t.size).size < t.size := by rw [ByteArray.size_extract]; omega
      clear hsp hdone
      go_wp2_with fail
      go_round
      case rel => exact ⟨_, rfl, by omega, Lib.hid (by rw [hst.out, hrel.out])⟩
      case measure => exact hsz
    · have hcut := hdone hno
      clear hdone
      rcases (show (t.toList.isEmpty = true ∧ (!t.toList.isEmpty) = false) ∨ (0 < t.size ∧ t.toList.isEmpty = false ∧ (!t.toList.isEmpty) = true ∧ (bt t 0 == 32) = false) by
        rcases hno with h | ⟨h1, h2⟩
        · left; have := isEmpty_of h; exact ⟨this, by rw [this]; rfl⟩
        · right; have := notEmpty h1; exact ⟨h1, this, by rw [this]; rfl, by rw [beq_eq_false_iff_ne]; exact h2⟩) with ⟨z1, z2⟩ | ⟨hz, z1, z2, q1⟩
      all_goals
        clear hno hrel
        go_wp2_with fail
        go_loop [0] (fun u => RbRel t u) (fun u => szOf u)
        case atStart => exact ⟨t, rfl, Nat.le_refl _, Lib.hid rfl⟩
        case round =>
          obtain ⟨v, rfl, hv, hrel⟩ := hrel
          have hbv := get_bt v
          rcases (show (0 < v.size ∧ (bt v (v.size - 1) = 32 ∨ bt v (v.size - 1) = 0)) ∨ (v.size = 0 ∨ (0 < v.size ∧ bt v (v.size - 1) ≠ 32 ∧ bt v (v.size - 1) ≠ 0)) by omega) with ⟨hvz, hsp⟩ | hno
          · have y1 := notEmpty hvz
            have y2 : (!v.toList.isEmpty) = true := by rw [y1]; rfl
            have hst := Lib.hid (cutR_step hvz hsp)
            have i1 : (0 : Int) ≤ (v.size : Int) - 1 := by omega
            have i2 : ((v.size : Int) - 1).toNat = v.size - 1 := by omega
            have i3 : v.size - 1 < v.size := by omega
            have i4 : (v.size : Int) - 1 < v.size := by omega
            have i5 : (v.size : Int) - 1 ≤ v.size := by omega
            have hsz : (v.extract 0 (v.size - 1)).size < v.size := by rw [ByteArray.size_extract]; omega
            rcases (show ((bt v (v.size - 1) == 32) = true) ∨ ((bt v (v.size - 1) == 32) = false ∧ (bt v (v.size - 1) == 0) = true) by
              rcases hsp with h | h
              · left; simpa using h
              · right; rw [h]; exact ⟨rfl, rfl⟩) with q1 | ⟨q1, q2⟩
            all_goals
              clear hsp
              go_wp2_with fail
              go_round
              case rel => exact ⟨_, rfl, by omega, Lib.hid (by rw [hst.out, hrel.out])⟩
              case measure => exact hsz
          · have hcv : Hid (cutR t = v.data.toList) := Lib.hid (by rw [← hrel.out, cutR_stop (by rcases hno with h | h; exact .inl h; exact .inr h.2)])
            have hF : Hid (cutF s = v) := Lib.hid (cutF_two s t v hcut.out hcv.out)
            rcases (show (v.toList.isEmpty = true ∧ (!v.toList.isEmpty) = false) ∨ (0 < v.size ∧ v.toList.isEmpty = false ∧ (!v.toList.isEmpty) = true ∧ (bt v (v.size - 1) == 32) = false ∧ (bt v (v.size - 1) == 0) = false) by
              rcases hno with h | ⟨h1, h2, h3⟩
              · left; have := isEmpty_of h; exact ⟨this, by rw [this]; rfl⟩
              · right; have := notEmpty h1; exact ⟨h1, this, by rw [this]; rfl, by rw [beq_eq_false_iff_ne]; exact h2, by rw [beq_eq_false_iff_ne]; exact h3⟩) with ⟨y1, y2⟩ | ⟨hvz, y1, y2, q1, q2⟩
            all_goals
              clear hno hrel hcv hcut
              have i1 : (0 : Int) ≤ (v.size : Int) - 1 ∨ v.size = 0 := by omega
              have i2 : ((v.size : Int) - 1).toNat = v.size - 1 := by omega
              have i3 : v.size - 1 < v.size ∨ v.size = 0 := by omega
              have i4 : (v.size : Int) - 1 < v.size := by omega
              have i5 : (v.size : Int) - 1 ≤ v.size := by omega
              go_wp2_with fail
              go_loop [8, 9] (fun nn i => RcRel v nn i) (fun _ i => (v.size - intOf i).toNat)
              case atStart => exact ⟨0, 0, Nat.zero_le _, by omega, by omega, rfl, rfl, Lib.hid rfl⟩
              case round =>
                obtain ⟨n, k, hk, l1, l2, rfl, rfl, hrel⟩ := hrel
                have c1 := bt_nonneg v k
                have c2 : bt v k < 256 := by have := bt_le v k; omega
                by_cases hlt : k < v.size
                · by_cases hd : 48 ≤ bt v k ∧ bt v k ≤ 55
                  · obtain ⟨d1, d2⟩ := hd
                    have C1 := Lib.hid (fun w => within_yes' d1 d2 w)
                    have C2 := Lib.hid (fun w => mul64_8 n l1 l2 w)
                    have L2 := Lib.hid l2
                    by_cases hr : n < 1152921504606846976
                    · have hgd := Lib.hid (od_good hlt d1 d2 hr)
                      have m1 : Hid (n * 8 / 18446744073709551616 = 0) := Lib.hid (by omega)
                      have m2 : Hid (n * 8 % 18446744073709551616 = n * 8) := Lib.hid (by omega)
                      have q3 : decide (9223372036854775808 ≤ n * 8) = false := decide_eq_false (by omega)
                      have hr2 : n * 8 ≤ 9223372036854775800 := by omega
                      have ew : IntKind.u64.wrap (n * 8 + (bt v k - 48)) = n * 8 + (bt v k - 48) := u64_nonneg (by omega) (by omega)
                      clear l2 hr
                      go_wp2_with (first | ((with_reducible refine (C1.out _).mono ?_); rintro e w' ⟨rfl, hw⟩; subst w') | ((with_reducible refine (C2.out _).mono ?_); rintro e w' ⟨rfl, hw⟩; subst w'; rw [m1.out, m2.out]))
                      go_round
                      case rel => exact ⟨n * 8 + (bt v k - 48), k + 1, hlt, by omega, by have := hr2; omega, by go_num, by go_num, Lib.hid (by rw [← hrel.out, hgd.out, Int.mul_comm 8 n])⟩
                      case measure => simp [intOf]; omega
                    · have hrg := Lib.hid (od_range (n := n) hlt d1 d2 (by omega))
                      have e0 : Hid (od v 0 0 v.size = (0, 2)) := Lib.hid (by rw [← hrel.out, hrg.out])
                      rcases (show (∃ H : Int, n * 8 / 18446744073709551616 = H ∧ decide (0 < H) = true) ∨ (n * 8 / 18446744073709551616 = 0 ∧ ∃ L : Int, n * 8 % 18446744073709551616 = L ∧ decide (9223372036854775808 ≤ L) = true) by
                        by_cases h : n < 2305843009213693952
                        · right; exact ⟨by omega, _, rfl, decide_eq_true (by omega)⟩
                        · left; exact ⟨_, rfl, decide_eq_true (by omega)⟩) with ⟨H, m1, q3⟩ | ⟨m1, L, m2, q3⟩
                      · have M1 := Lib.hid m1
                        clear m1 hr l2
                        go_wp2_with (first | ((with_reducible refine (C1.out _).mono ?_); rintro e w' ⟨rfl, hw⟩; subst w') | ((with_reducible refine (C2.out _).mono ?_); rintro e w' ⟨rfl, hw⟩; subst w'; rw [M1.out]))
                        go_ret2
                        exact ⟨ret_val (by rw [hF.out, e0.out]; rfl), (by show Below _ _ _; repeat' (first | (with_reducible exact Below.refl _ _) | (with_reducible assumption) | (with_reducible refine belowDrewN ?_ _) | (with_reducible refine Below.alloc ?_ ?_ _) | (with_reducible refine Below.drew ?_) | (with_reducible refine Below.setCell ?_ ?_ _) | go_size))⟩
                      · have M1 := Lib.hid m1
                        have M2 := Lib.hid m2
                        clear m1 m2 hr l2
                        go_wp2_with (first | ((with_reducible refine (C1.out _).mono ?_); rintro e w' ⟨rfl, hw⟩; subst w') | ((with_reducible refine (C2.out _).mono ?_); rintro e w' ⟨rfl, hw⟩; subst w'; rw [M1.out, M2.out]))
                        go_ret2
                        exact ⟨ret_val (by rw [hF.out, e0.out]; rfl), (by show Below _ _ _; repeat' (first | (with_reducible exact Below.refl _ _) | (with_reducible assumption) | (with_reducible refine belowDrewN ?_ _) | (with_reducible refine Below.alloc ?_ ?_ _) | (with_reducible refine Below.drew ?_) | (with_reducible refine Below.setCell ?_ ?_ _) | go_size))⟩
                  · have hfm := Lib.hid (od_form (n := n) hlt (by omega))
                    have e0 : Hid (od v 0 0 v.size = (0, 3)) := Lib.hid (by rw [← hrel.out, hfm.out])
                    have C1 := Lib.hid (fun w => within_no' (n := bt v k) (low := 48) (high := 55) (by omega) w)
                    clear hd
                    go_wp2_with ((refine (C1.out _).mono ?_); rintro e w' ⟨rfl, hw⟩; subst w')
                    go_ret2
                    exact ⟨ret_val (by rw [hF.out, e0.out]; rfl), (by show Below _ _ _; repeat' (first | (with_reducible exact Below.refl _ _) | (with_reducible assumption) | (with_reducible refine belowDrewN ?_ _) | (with_reducible refine Below.alloc ?_ ?_ _) | (with_reducible refine Below.drew ?_) | (with_reducible refine Below.setCell ?_ ?_ _) | go_size))⟩
                · have hen := Lib.hid (od_end v n k (by omega))
                  have e0 : Hid (od v 0 0 v.size = (n, 0)) := Lib.hid (by rw [← hrel.out, hen.out])
                  have ew : wrap64 n = n := IntWalk.wrap64_in n ⟨by omega, by omega⟩
                  go_wp2_with fail
                  go_ret2
                  exact ⟨ret_val (by rw [hF.out, e0.out]; rfl), (by show Below _ _ _; repeat' (first | (with_reducible exact Below.refl _ _) | (with_reducible assumption) | (with_reducible refine belowDrewN ?_ _) | (with_reducible refine Below.alloc ?_ ?_ _) | (with_reducible refine Below.drew ?_) | (with_reducible refine Below.setCell ?_ ?_ _) | go_size))⟩
end Go.Proofs.YtiiaoagobjgkiaaGreatDoor
