/-
  block.Fill and the reference's Fill: the text and what is missing up to the end of a block. No conditions but the text's bound.
-/
import Derived.Test.YtiiaoagobjgkiaaGreatDoorNum
import Derived.Test.YtiiaoagobjgkiaaGreatDoorShelf
namespace Go.Proofs.YtiiaoagobjgkiaaGreatDoor
open Go.RowKit Go.WideShapes

/-- How many bytes are missing up to the end of a block. -/
def padI (n : Int) : Int := if n < 0 then 0 else (512 - n % 512) % 512

theorem blkPad_any (n : Int) (w : World) : Calls Tryz.prog 122 #[.int .i64 n] w fun e w' => e = .returned (.int .i64 (padI n)) ∧ Ext w w' := by
  by_cases h : n < 0
  · have er : Hid (padI n = 0) := Lib.hid (by unfold padI; rw [if_pos h])
    go_enter Tryz.func122, Tryz.ntmps122
    go_wp2_with fail
    go_ret
    exact ⟨ret_int (by rw [er.out]), (by show Below _ _ _; repeat' (first | (with_reducible exact Below.refl _ _) | (with_reducible assumption) | (with_reducible refine belowDrewN ?_ _) | (with_reducible refine Below.alloc ?_ ?_ _) | (with_reducible refine Below.drew ?_) | (with_reducible refine Below.setCell ?_ ?_ _) | go_size))⟩
  · have er : Hid (padI n = (512 - n % 512) % 512) := Lib.hid (by unfold padI; rw [if_neg h])
    have h0 : 0 ≤ n := by omega
    have h1 : 0 ≤ 512 - n % 512 := by omega
    go_enter Tryz.func122, Tryz.ntmps122
    go_wp2_with fail
    go_ret
    exact ⟨ret_int (by rw [er.out]; omega), (by show Below _ _ _; repeat' (first | (with_reducible exact Below.refl _ _) | (with_reducible assumption) | (with_reducible refine belowDrewN ?_ _) | (with_reducible refine Below.alloc ?_ ?_ _) | (with_reducible refine Below.drew ?_) | (with_reducible refine Below.setCell ?_ ?_ _) | go_size))⟩

theorem refBlkPad_any (n : Int) (hn : n ≤ 1099511627776) (w : World) : Calls Tryz.prog 77 #[.int .i64 n] w fun e w' => e = .returned (.int .i64 (padI n)) ∧ Ext w w' := by
  by_cases h : n ≤ 0
  · have er : Hid (padI n = 0) := Lib.hid (by unfold padI; split <;> omega)
    go_enter Tryz.func77, Tryz.ntmps77
    go_wp2_with fail
    refine wp_loop_rounds 1 ?_
    rw [rounds_succ]
    go_wp2_with fail
    go_ret
    exact ⟨ret_int (by rw [er.out]), (by show Below _ _ _; repeat' (first | (with_reducible exact Below.refl _ _) | (with_reducible assumption) | (with_reducible refine belowDrewN ?_ _) | (with_reducible refine Below.alloc ?_ ?_ _) | (with_reducible refine Below.drew ?_) | (with_reducible refine Below.setCell ?_ ?_ _) | go_size))⟩
  · have er : Hid (padI n = (512 - n % 512) % 512) := Lib.hid (by unfold padI; rw [if_neg (by omega)])
    have h0 : 0 < n := by omega
    go_enter Tryz.func77, Tryz.ntmps77
    go_wp2_with fail
    go_loop [3] (fun k => ∃ j : Nat, (j : Int) ≤ (512 - n % 512) % 512 ∧ k = .int .i64 (j : Int)) (fun k => (512 - intOf k).toNat)
    case atStart => exact ⟨0, by omega, rfl⟩
    case round =>
      obtain ⟨j, hj, rfl⟩ := hrel
      have hj2 : j < 512 := by omega
      have h3 : 0 ≤ n % 512 + (j : Int) := by omega
      by_cases hd : (n % 512 + (j : Int)) % 512 = 0
      · have hb : ((n % 512 + (j : Int)) % 512 != 0) = false := by simp [hd]
        have Hd := Lib.hid hd
        have Hj := Lib.hid hj
        clear hd hj
        go_wp2_with fail
        go_ret
        exact ⟨ret_int (by rw [er.out]; have := Hd.out; have := Hj.out; omega), (by show Below _ _ _; repeat' (first | (with_reducible exact Below.refl _ _) | (with_reducible assumption) | (with_reducible refine belowDrewN ?_ _) | (with_reducible refine Below.alloc ?_ ?_ _) | (with_reducible refine Below.drew ?_) | (with_reducible refine Below.setCell ?_ ?_ _) | go_size))⟩
      · have hb : ((n % 512 + (j : Int)) % 512 != 0) = true := by simpa using hd
        have Hd := Lib.hid hd
        have Hj := Lib.hid hj
        clear hd hj
        go_wp2_with fail
        go_round
        case rel => exact ⟨j + 1, by have := Hd.out; have := Hj.out; omega, by go_num⟩
        case measure => simp [intOf]; omega

def padB (n : Nat) : ByteArray := ⟨(Lib.repeatL [0] (padI n).toNat).toArray⟩
theorem padI_rng (n : Nat) : 0 ≤ padI n ∧ padI n ≤ 511 := by unfold padI; rw [if_neg (by omega)]; omega
theorem padB_size (n : Nat) : (padB n).size ≤ 511 := by
  have := padI_rng n
  have h := Lib.repeatL_length [0] (padI n).toNat
  show (Lib.repeatL [0] (padI n).toNat).toArray.size ≤ _
  rw [List.size_toArray, h]
  simp
  omega
theorem rep_any (n : Nat) (w : World) : Calls Tryz.prog 76 #[.string ⟨#[0]⟩, .int .i64 (padI n)] w fun e w' => e = .returned (.string (padB n)) ∧ Ext w w' := by
  obtain ⟨h0, h1⟩ := padI_rng n
  have e : padI n = ((padI n).toNat : Int) := by omega
  have := Tryz.strings_Repeat ⟨#[0]⟩ (padI n).toNat w (by omega) (by show 1 * _ ≤ _; omega)
  rw [← e] at this
  exact this

set_option maxRecDepth 100000 in
theorem fill_any (s : ByteArray) (hs : s.size ≤ 100000) (w : World) : Calls Tryz.prog 79 #[.string s] w fun e w' => e = .returned (.string (s ++ padB s.size)) ∧ Ext w w' := by
  have C1 := Lib.hid (fun w => blkPad_any s.size w)
  have C2 := Lib.hid (fun w => rep_any s.size w)
  have hz := padB_size s.size
  generalize padB s.size = p at *
  generalize padI s.size = q at *
  go_enter Tryz.func79, Tryz.ntmps79
  go_wp2_with fail
  refine (C1.out _).mono ?_; rintro e w1 ⟨rfl, hx1⟩
  go_wp2_with fail
  refine (C2.out _).mono ?_; rintro e w2 ⟨rfl, hx2⟩
  go_wp2_with fail
  go_ret
  exact ⟨rfl, hx1.trans hx2⟩
set_option maxRecDepth 100000 in
theorem refFill_any (s : ByteArray) (hs : s.size ≤ 100000) (w : World) : Calls Tryz.prog 39 #[.string s] w fun e w' => e = .returned (.string (s ++ padB s.size)) ∧ Ext w w' := by
  have C1 := Lib.hid (fun w => refBlkPad_any s.size (by omega) w)
  have C2 := Lib.hid (fun w => rep_any s.size w)
  have hz := padB_size s.size
  generalize padB s.size = p at *
  generalize padI s.size = q at *
  go_enter Tryz.func39, Tryz.ntmps39
  go_wp2_with fail
  refine (C1.out _).mono ?_; rintro e w1 ⟨rfl, hx1⟩
  go_wp2_with fail
  refine (C2.out _).mono ?_; rintro e w2 ⟨rfl, hx2⟩
  go_wp2_with fail
  go_ret
  exact ⟨rfl, hx1.trans hx2⟩

end Go.Proofs.YtiiaoagobjgkiaaGreatDoor
