/-
  number.wide: a field by the base 256.
-/
import Derived.Test.YtiiaoagobjgkiaaGreatDoorBare
import Derived.Test.YtiiaoagobjgkiaaGreatDoorNum
import Derived.Test.YtiiaoagobjgkiaaGreatDoorBits
import Derived.Test.YtiiaoagobjgkiaaGreatDoorReadV
namespace Go.Proofs.YtiiaoagobjgkiaaGreatDoor
open Go.RowKit Go.PlainAid

/-- The value and the error of what wd tells. -/
def wdV (o : Option Int) : Int := o.getD 0
def wdE (o : Option Int) : Int := if o.isSome then 0 else 2

/-- Between two rounds of wide. -/
def WdRel (s : ByteArray) (nn i : Value) : Prop := ∃ (n : Int) (k : Nat), 1 ≤ k ∧ k ≤ s.size ∧ -9223372036854775808 ≤ n ∧ n ≤ 9223372036854775807 ∧ nn = .int .i64 n ∧ i = .int .i64 (k : Int) ∧ Hid (wd s n k (s.size - k) = wdR s)

set_option maxHeartbeats 1600000 in
set_option maxRecDepth 100000 in
theorem wide_any (s : ByteArray) (w : World) (h0 : 0 < s.size) (hs : s.size ≤ 100000) : Calls Tryz.prog 174 #[.string s] w fun e w' => e = .returned (.tuple #[.int .i64 (wdV (wdR s)), errOf (wdE (wdR s))]) ∧ Ext w w' := by
  have hb := get_bt s
  have h0' : (0 : Int) < s.size := by omega
  have b1 := bt_nonneg s 0
  have b2 : bt s 0 < 256 := by have := bt_le s 0; omega
  have h127 := and127_u8 b1 b2
  obtain ⟨n0, hn0⟩ : ∃ n0, n0 = wd0 s := ⟨_, rfl⟩
  have hR : Hid (wd s n0 1 (s.size - 1) = wdR s) := Lib.hid (by rw [hn0]; rfl)
  rcases (show ((bt s 0 == 255) = true ∧ n0 = -1) ∨ ((bt s 0 == 255) = false ∧ n0 = bt s 0 % 128) by
      rw [hn0]; unfold wd0
      by_cases h : bt s 0 = 255
      · left; rw [if_pos h]; exact ⟨by simpa using h, rfl⟩
      · right; rw [if_neg h]; exact ⟨by simpa using h, rfl⟩) with ⟨hq, rfl⟩ | ⟨hq, rfl⟩
  all_goals
    clear hn0
    go_enter Tryz.func174, Tryz.ntmps174
    go_wp2_with fail
    go_loop [4, 5] (fun nn i => WdRel s nn i) (fun _ i => (s.size - intOf i).toNat)
    case atStart => exact ⟨_, 1, Nat.le_refl _, h0, by omega, by omega, rfl, rfl, hR⟩
    case round =>
      obtain ⟨n, k, hk1, hk, l1, l2, rfl, rfl, hrel⟩ := hrel
      have c1 := bt_nonneg s k
      have c2 : bt s k < 256 := by have := bt_le s k; omega
      by_cases hlt : k < s.size
      · by_cases hr : n < 36028797018963968 ∧ -36028797018963968 ≤ n
        · obtain ⟨r1, r2⟩ := hr
          have q1 : decide (36028797018963968 ≤ n) = false := by simpa using r1
          have q2 : decide (n < -36028797018963968) = false := by simpa using r2
          have hor := or_byte_i64 (x := n * 256) (y := bt s k) (by omega) c1 c2 (by omega) (by omega)
          have hgd := Lib.hid (wd_good hlt r1 r2)
          go_wp2_with fail
          go_round
          case rel => exact ⟨n * 256 + bt s k, k + 1, by omega, hlt, by omega, by omega, by go_num, by go_num, Lib.hid (by rw [← hrel.out, hgd.out, Int.mul_comm 256 n])⟩
          case measure => simp [intOf]; omega
        · have hbd := Lib.hid (wd_bad hlt hr)
          have e0 : Hid (wdR s = none) := Lib.hid (by rw [← hrel.out, hbd.out])
          rcases (show 36028797018963968 ≤ n ∨ (n < 36028797018963968 ∧ n < -36028797018963968) by omega) with r1 | ⟨r1, r2⟩ <;> clear hr
          · have q1 : decide (36028797018963968 ≤ n) = true := by simpa using r1
            go_wp2_with fail
            go_ret2
            exact ⟨ret_val (by rw [e0.out]; rfl), (by show Below _ _ _; repeat' (first | (with_reducible exact Below.refl _ _) | (with_reducible assumption) | (with_reducible refine belowDrewN ?_ _) | (with_reducible refine Below.alloc ?_ ?_ _) | (with_reducible refine Below.drew ?_) | (with_reducible refine Below.setCell ?_ ?_ _) | go_size))⟩
          · have q1 : decide (36028797018963968 ≤ n) = false := by simpa using r1
            have q2 : decide (n < -36028797018963968) = true := by simpa using r2
            go_wp2_with fail
            go_ret2
            exact ⟨ret_val (by rw [e0.out]; rfl), (by show Below _ _ _; repeat' (first | (with_reducible exact Below.refl _ _) | (with_reducible assumption) | (with_reducible refine belowDrewN ?_ _) | (with_reducible refine Below.alloc ?_ ?_ _) | (with_reducible refine Below.drew ?_) | (with_reducible refine Below.setCell ?_ ?_ _) | go_size))⟩
      · have hen := Lib.hid (wd_end s n k (by omega))
        have e0 : Hid (wdR s = some n) := Lib.hid (by rw [← hrel.out, hen.out])
        go_wp2_with fail
        go_ret2
        exact ⟨ret_val (by rw [e0.out]; rfl), (by show Below _ _ _; repeat' (first | (with_reducible exact Below.refl _ _) | (with_reducible assumption) | (with_reducible refine belowDrewN ?_ _) | (with_reducible refine Below.alloc ?_ ?_ _) | (with_reducible refine Below.drew ?_) | (with_reducible refine Below.setCell ?_ ?_ _) | go_size))⟩
end Go.Proofs.YtiiaoagobjgkiaaGreatDoor
