/-
  Contracts of block.Pad and of the reference's Pad.
-/
import Derived.Test.YtmpcnjjibfcfmaaDoorNum
namespace Go.Proofs.YtmpcnjjibfcfmaaDoor
open Go.RowKit

/-- How many bytes are missing up to the end of a block. -/
def padI (n : Int) : Int := if n < 0 then 0 else (512 - n % 512) % 512

theorem pad_any (n : Int) (w : World) : Calls Tryd.prog 66 #[.int .i64 n] w fun e w' => e = .returned (.int .i64 (padI n)) ∧ Ext w w' := by
  by_cases h : n < 0
  · have er : Hid (padI n = 0) := Lib.hid (by unfold padI; rw [if_pos h])
    go_enter Tryd.func66, Tryd.ntmps66
    go_wp2_with fail
    go_ret
    exact ⟨ret_int (by rw [er.out]), (by show Below _ _ _; repeat' (first | (with_reducible exact Below.refl _ _) | (with_reducible assumption) | (with_reducible refine belowDrewN ?_ _) | (with_reducible refine Below.alloc ?_ ?_ _) | (with_reducible refine Below.drew ?_) | (with_reducible refine Below.setCell ?_ ?_ _) | go_size))⟩
  · have er : Hid (padI n = (512 - n % 512) % 512) := Lib.hid (by unfold padI; rw [if_neg h])
    have h0 : 0 ≤ n := by omega
    have h1 : 0 ≤ 512 - n % 512 := by omega
    go_enter Tryd.func66, Tryd.ntmps66
    go_wp2_with fail
    go_ret
    exact ⟨ret_int (by rw [er.out]; omega), (by show Below _ _ _; repeat' (first | (with_reducible exact Below.refl _ _) | (with_reducible assumption) | (with_reducible refine belowDrewN ?_ _) | (with_reducible refine Below.alloc ?_ ?_ _) | (with_reducible refine Below.drew ?_) | (with_reducible refine Below.setCell ?_ ?_ _) | go_size))⟩

theorem refPad_any (n : Int) (hn : n ≤ 1099511627776) (w : World) : Calls Tryd.prog 67 #[.int .i64 n] w fun e w' => e = .returned (.int .i64 (padI n)) ∧ Ext w w' := by
  by_cases h : n ≤ 0
  · have er : Hid (padI n = 0) := Lib.hid (by unfold padI; split <;> omega)
    go_enter Tryd.func67, Tryd.ntmps67
    go_wp2_with fail
    refine wp_loop_rounds 1 ?_
    rw [rounds_succ]
    go_wp2_with fail
    go_ret
    exact ⟨ret_int (by rw [er.out]), (by show Below _ _ _; repeat' (first | (with_reducible exact Below.refl _ _) | (with_reducible assumption) | (with_reducible refine belowDrewN ?_ _) | (with_reducible refine Below.alloc ?_ ?_ _) | (with_reducible refine Below.drew ?_) | (with_reducible refine Below.setCell ?_ ?_ _) | go_size))⟩
  · have er : Hid (padI n = (512 - n % 512) % 512) := Lib.hid (by unfold padI; rw [if_neg (by omega)])
    have h0 : 0 < n := by omega
    go_enter Tryd.func67, Tryd.ntmps67
    go_wp2_with fail
    go_loop [3] (fun k => ∃ j : Nat, (j : Int) ≤ (512 - n % 512) % 512 ∧ k = .int .i64 (j : Int)) (fun k => (512 - intOf k).toNat)
    case atStart => exact ⟨0, by omega, rfl⟩
    case round =>
      obtain ⟨j, hj, rfl⟩ := hrel
      have hj2 : j < 512 := by omega
      have h3 : 0 ≤ n % 512 + (j : Int) := by omega
      by_cases hd : (n % 512 + (j : Int)) % 512 = 0
      · have hb : ((n % 512 + (j : Int)) % 512 != 0) = false := by simp [hd]
        have Hd := Lib.hid hd
        have Hj := Lib.hid hj
        clear hd hj
        go_wp2_with fail
        go_ret
        exact ⟨ret_int (by rw [er.out]; have := Hd.out; have := Hj.out; omega), (by show Below _ _ _; repeat' (first | (with_reducible exact Below.refl _ _) | (with_reducible assumption) | (with_reducible refine belowDrewN ?_ _) | (with_reducible refine Below.alloc ?_ ?_ _) | (with_reducible refine Below.drew ?_) | (with_reducible refine Below.setCell ?_ ?_ _) | go_size))⟩
      · have hb : ((n % 512 + (j : Int)) % 512 != 0) = true := by simpa using hd
        have Hd := Lib.hid hd
        have Hj := Lib.hid hj
        clear hd hj
        go_wp2_with fail
        go_round
        case rel => exact ⟨j + 1, by have := Hd.out; have := Hj.out; omega, by go_num⟩
        case measure => simp [intOf]; omega
end Go.Proofs.YtmpcnjjibfcfmaaDoor
