/-
  Contracts of number.Most and of the reference's Most.
-/
import Derived.Test.YtbofobakphlpbaaGreatDoorNum
namespace Go.Proofs.YtbofobakphlpbaaGreatDoor
open Go.RowKit

/-- The greatest octal number of a field. -/
def mostI (n : Int) : Int := if 2 ≤ n ∧ n ≤ 20 then (pw 8 (n - 1).toNat : Int) - 1 else 0

theorem pw8_bound {k : Nat} (h : k ≤ 19) : pw 8 k ≤ 144115188075855872 := Nat.le_trans (pw_mono (by decide) h) (by decide)
theorem pw8_pos (k : Nat) : 1 ≤ pw 8 k := Nat.pow_pos (by decide)

theorem most_any (n : Int) (w : World) : Calls Tryz.prog 119 #[.int .i64 n] w fun e w' => e = .returned (.int .i64 (mostI n)) ∧ Ext w w' := by
  by_cases h : 2 ≤ n ∧ n ≤ 20
  · obtain ⟨m, rfl⟩ : ∃ m : Nat, n = (m : Int) + 1 := ⟨(n - 1).toNat, by omega⟩
    obtain ⟨h1, h2⟩ := h
    have er : Hid (mostI ((m : Int) + 1) = (pw 8 m : Int) - 1) := Lib.hid (by unfold mostI; rw [if_pos ⟨h1, h2⟩]; simp)
    have h3 : decide ((m : Int) + 1 < 2) = false := by simpa using h1
    have h4 : decide (20 < (m : Int) + 1) = false := by simpa using h2
    have h5 : m ≤ 19 := by omega
    clear h1 h2
    go_enter Tryz.func119, Tryz.ntmps119
    go_wp2_with fail
    go_loop [3, 12] (fun out i => ∃ k : Nat, k ≤ m ∧ i = .int .i64 (k : Int) ∧ out = .int .i64 (pw 8 k : Int)) (fun _ i => m - (intOf i).toNat)
    case atStart => exact ⟨0, by omega, rfl, rfl⟩
    case round =>
      obtain ⟨k, hk, rfl, rfl⟩ := hrel
      have b1 := pw8_bound (k := k) (by omega)
      have b2 := pw8_pos k
      by_cases hlt : k < m
      · have hm : Hid ((pw 8 k : Int) * 8 = (pw 8 (k + 1) : Int)) := Lib.hid (pw_succ 8 k).symm
        go_wp2_with fail
        go_round
        case rel => exact ⟨k + 1, by omega, by go_num, by rw [← hm.out]⟩
        case measure => simp [intOf]; omega
      · obtain rfl : k = m := by omega
        go_wp2_with fail
        go_ret
        exact ⟨ret_int (by rw [er.out]), (by show Below _ _ _; repeat' (first | (with_reducible exact Below.refl _ _) | (with_reducible assumption) | (with_reducible refine belowDrewN ?_ _) | (with_reducible refine Below.alloc ?_ ?_ _) | (with_reducible refine Below.drew ?_) | (with_reducible refine Below.setCell ?_ ?_ _) | go_size))⟩
  · have er : Hid (mostI n = 0) := Lib.hid (by unfold mostI; rw [if_neg h])
    rcases (show (decide (n < 2) = true) ∨ (decide (n < 2) = false ∧ decide (20 < n) = true) from by simp; omega) with h3 | ⟨h3, h4⟩
    all_goals
      go_enter Tryz.func119, Tryz.ntmps119
      go_wp2_with fail
      go_ret
      exact ⟨ret_int (by rw [er.out]), (by show Below _ _ _; repeat' (first | (with_reducible exact Below.refl _ _) | (with_reducible assumption) | (with_reducible refine belowDrewN ?_ _) | (with_reducible refine Below.alloc ?_ ?_ _) | (with_reducible refine Below.drew ?_) | (with_reducible refine Below.setCell ?_ ?_ _) | go_size))⟩
end Go.Proofs.YtbofobakphlpbaaGreatDoor
