/-
  The law TreeRights holds: Right returns what the reference returns for any file. No conditions.
-/
import Derived.Test.YtioceakpmnhohaaNodeS
import Derived.Test.YtioceakpmnhohaaNodeT
namespace Go.Proofs.Ytioceakpmnhohaa.treeRights
open Go.ChangeShapes Go.WideShapes Go.ChangeAt Go.RowKit Go.Joins

set_option maxHeartbeats 1600000 in
set_option maxRecDepth 100000 in
theorem law (kd md ui gi ts tn ma mi : Int) (dt lk : ByteArray) (_hb1 : dt.size ≤ 140737488351232) (_hb2 : lk.size ≤ 140737488351232) (hk0 : 0 ≤ kd) (hk1 : kd ≤ 255) (w : World) :
    Calls Try.prog 6 #[.agg #[.int .u8 kd, .int .i64 md, .int .i64 ui, .int .i64 gi, .int .i64 ts, .int .i64 tn, .string dt, .string lk, .int .i64 ma, .int .i64 mi]] w fun e w' => e = .returned (.bool true) ∧ Ext w w' := by
  have key : ∀ (p q r s : Bool), decide (900 < (dt.size : Int)) = p → decide ((dt.size : Int) < 3991) = q → decide (4009 < (dt.size : Int)) = r → decide (300 < (lk.size : Int)) = s →
      Calls Try.prog 6 #[.agg #[.int .u8 kd, .int .i64 md, .int .i64 ui, .int .i64 gi, .int .i64 ts, .int .i64 tn, .string dt, .string lk, .int .i64 ma, .int .i64 mi]] w fun e w' => e = .returned (.bool true) ∧ Ext w w' := by
    intro p q r s hp hq hr hs
    cases p <;> cases q <;> cases r <;> cases s
    all_goals
      go_enter Try.func6, Try.ntmps6
      go_wp2_with fail
      refine wp_region_det (Stood _) (by kernel_rfl) (by kernel_rfl) (Stood.start _) ?_
      repeat (first
        | (refine det_skip (by rfl) ?_; simp only [Act.put, List.setIfInBounds_toArray, List.set_cons_zero, List.set_cons_succ, hp, hq, hr, hs])
        | (refine det_op (v := ?_) rfl (by rfl) (fun w' hS => ?_) ?_; rotate_left; (focus (obtain ⟨hcl, hxt⟩ := hS; go_wp2_with (first | ((with_reducible refine (treeRight_any kd md ui gi ts tn ma mi dt lk _ hk0 hk1).mono ?_); rintro e w1 ⟨rfl, hx1⟩) | ((with_reducible refine (nodeRight_any kd md ui gi ts tn ma mi dt lk _ hk0 hk1).mono ?_); rintro e w1 ⟨rfl, hx1⟩)); (first | refine ⟨?_, rfl, hcl, hxt⟩ | refine ⟨?_, rfl, Stood.of (hxt.trans (by assumption))⟩); (first | (simp only [List.getElem?_toArray, List.getElem?_cons_succ, List.getElem?_cons_zero]; rfl) | rfl))); simp only [Act.put, List.setIfInBounds_toArray, List.set_cons_zero, List.set_cons_succ, hp, hq, hr, hs]))
      refine det_end ?_
      intro w1 hS
      have hx := hS.2
      clear hS
      go_wp2_with fail
      go_ret
      exact ⟨ret_bool (by simp), Ext.trans (by show Below _ _ _; repeat' (first | (with_reducible exact Below.refl _ _) | (with_reducible assumption) | (with_reducible refine belowDrewN ?_ _) | (with_reducible refine Below.alloc ?_ ?_ _) | (with_reducible refine Below.drew ?_) | (with_reducible refine Below.setCell ?_ ?_ _) | go_size)) hx⟩
  exact key _ _ _ _ rfl rfl rfl rfl

theorem walk : Frame.Walks 6 Try.f6 := by
  intro H enc W base args ds p hval hA hsz
  rw [Try.params6] at hA hval hsz
  obtain ⟨v0, d0, rfl, rfl, h0⟩ := trodAll_one hA
  obtain ⟨dt, lk, kd, md, ui, gi, tm, tn, ma, mi, rfl, h1, h2, h3, h4⟩ := arg_node (hval 0 30 v0 rfl rfl) h0 hsz (j := 0) rfl rfl
  exact law kd md ui gi tm tn ma mi dt lk h1 h2 h3 h4 W

/-! ### The row -/
theorem plain : Frame.Plain Rows.treeRightsSpec Try.f6 := by
  refine ⟨rfl, fun H ds h => ?_⟩
  rw [Try.params6] at h
  match ds, h with
  | [_], _ => rfl
theorem read : ∀ t ∈ Try.f6.params.toList, Try.prog.readableRec t = true ∧ t < Try.prog.types.size := by
  rw [Try.params6]
  intro t ht
  simp at ht
  subst ht
  all_goals exact ⟨by kernel_rfl, of_decide_eq_true (by kernel_rfl)⟩
set_option maxRecDepth 100000 in
theorem over : Rows.treeRightsRow.holds Try.pinned (OpenSpec.ofChange Rows.treeRightsSpec) :=
  OpenClaim.holds_of_wide 6 Try.f6 rfl rfl rfl rfl rfl rfl rfl ⟨rfl, rfl, rfl, rfl, rfl⟩ rfl rfl rfl rfl rfl (by kernel_rfl) Try.func6 (by kernel_rfl)
    (of_decide_eq_true (by kernel_rfl)) (by unfold Func.isWrapper; first | (rw [if_pos (by decide +kernel)]; kernel_rfl) | (rw [if_neg (by decide +kernel)]; exact ⟨rfl, rfl⟩))
    (fun os started H enc _ => Frame.lifted Try.func6 (by kernel_rfl) plain (by kernel_rfl) read walk os started H enc
      (ChangeSpec.witness6 (enc := enc) (C := Try.checked) false ⟨#[], #[.agg #[.int .u8 0, .int .i64 0, .int .i64 0, .int .i64 0, .int .i64 0, .int .i64 0, .string ⟨#[]⟩, .string ⟨#[]⟩, .int .i64 0, .int .i64 0]], []⟩ 8 (by kernel_rfl) (by kernel_rfl) (by kernel_rfl) (by kernel_rfl)))

theorem treeRights_holds : Rows.TreeRightsSaid := over
#print axioms treeRights_holds
end Go.Proofs.Ytioceakpmnhohaa.treeRights
