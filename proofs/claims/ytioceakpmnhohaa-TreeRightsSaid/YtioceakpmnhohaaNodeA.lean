/-
  Contract of tree.Right, all kinds.
-/
import Derived.Test.YtioceakpmnhohaaNodeP
namespace Go.Proofs.Ytioceakpmnhohaa
open Go.RowKit
variable (kd md ui gi ts tn ma mi : Int) (dt lk : ByteArray) (w : World)

set_option maxHeartbeats 1600000 in
set_option maxRecDepth 100000 in
theorem treeRight_any (hk0 : 0 ≤ kd) (hk1 : kd ≤ 255) :
    Calls Try.prog 16 #[.agg #[.int .u8 kd, .int .i64 md, .int .i64 ui, .int .i64 gi, .int .i64 ts, .int .i64 tn, .string dt, .string lk, .int .i64 ma, .int .i64 mi]] w fun e w' => e = .returned (.bool (nodeB kd md ui gi ts tn ma mi dt lk)) ∧ Ext w w' := by
  cases h1 : rngB kd 48 54 with
  | false =>
    have hd : Hid (nodeB kd md ui gi ts tn ma mi dt lk = false) := Lib.hid (by unfold nodeB; rw [h1]; simp)
    have hn : ¬ (48 ≤ kd ∧ kd ≤ 54) := fun h => by unfold rngB at h1; simp [h.1, h.2] at h1
    have h51 : (kd == 51) = false := by rw [beq_eq_false_iff_ne]; omega
    have h52 : (kd == 52) = false := by rw [beq_eq_false_iff_ne]; omega
    have c0 := fun w => treeWithin_same w kd 48 54
    rw [h1] at c0
    have C0 := Lib.hid c0
    clear c0 h1 hn
    go_enter Try.func16, Try.ntmps16
    go_wp2_with ((with_reducible refine (C0.out _).mono ?_); rintro e w1 ⟨rfl, rfl⟩)
    go_ret
    exact ⟨ret_bool (by rw [hd.out]), (by show Below _ _ _; repeat' (first | (with_reducible exact Below.refl _ _) | (with_reducible assumption) | (with_reducible refine belowDrewN ?_ _) | (with_reducible refine Below.alloc ?_ ?_ _) | (with_reducible refine Below.drew ?_) | (with_reducible refine Below.setCell ?_ ?_ _) | go_size))⟩
  | true =>
    have hr : 48 ≤ kd ∧ kd ≤ 54 := by
      unfold rngB at h1
      simp only [Bool.and_eq_true, decide_eq_true_eq] at h1
      exact h1
    rcases (show kd = 49 ∨ kd = 48 ∨ kd = 50 ∨ kd = 51 ∨ kd = 52 ∨ kd = 53 ∨ kd = 54 by omega) with rfl | rfl | rfl | rfl | rfl | rfl | rfl
    · have hd : Hid (nodeB 49 md ui gi ts tn ma mi dt lk = false) := Lib.hid (by unfold nodeB; rw [h1]; simp)
      have c0 := fun w => treeWithin_same w 49 48 54
      rw [h1] at c0
      have C0 := Lib.hid c0
      clear c0 h1 hr
      go_enter Try.func16, Try.ntmps16
      go_wp2_with ((with_reducible refine (C0.out _).mono ?_); rintro e w1 ⟨rfl, rfl⟩)
      go_ret
      exact ⟨ret_bool (by rw [hd.out]), (by show Below _ _ _; repeat' (first | (with_reducible exact Below.refl _ _) | (with_reducible assumption) | (with_reducible refine belowDrewN ?_ _) | (with_reducible refine Below.alloc ?_ ?_ _) | (with_reducible refine Below.drew ?_) | (with_reducible refine Below.setCell ?_ ?_ _) | go_size))⟩
    · exact treeRight_file _ _ _ _ _ _ _ _ _ _ _ hk0 hk1 h1 rfl rfl rfl rfl rfl
    · exact treeRight_soft _ _ _ _ _ _ _ _ _ _ _ hk0 hk1 h1 rfl rfl rfl rfl rfl
    · exact treeRight_chr _ _ _ _ _ _ _ _ _ _ _ hk0 hk1 h1 rfl rfl rfl rfl rfl
    · exact treeRight_blk _ _ _ _ _ _ _ _ _ _ _ hk0 hk1 h1 rfl rfl rfl rfl rfl
    · exact treeRight_other _ _ _ _ _ _ _ _ _ _ _ hk0 hk1 h1 rfl rfl rfl rfl rfl
    · exact treeRight_other _ _ _ _ _ _ _ _ _ _ _ hk0 hk1 h1 rfl rfl rfl rfl rfl
end Go.Proofs.Ytioceakpmnhohaa
