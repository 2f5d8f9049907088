/-
  The law StampRights holds: stamp.Right and stamp.Cut return what the reference returns for any time. No conditions.
-/
import Derived.Test.YtahibbijekfjiaaTime
namespace Go.Proofs.Ytahibbijekfjiaa.stampRights
open Go.ChangeShapes Go.WideShapes Go.ChangeAt Go.RowKit Go.Joins

theorem cells_time : Try.prog.cellsOf 23 = 2 := by kernel_rfl

theorem law (a b : Int) (w : World) : Calls Try.prog 4 #[.agg #[.int .i64 a, .int .i64 b]] w fun e w' => e = .returned (.bool true) ∧ Ext w w' := by
  go_enter Try.func4, Try.ntmps4
  go_wp2_with fail
  refine wp_region_det (Stood _) (by kernel_rfl) (by kernel_rfl) (Stood.start _) ?_
  repeat (first
    | (refine det_skip (by rfl) ?_; simp only [Act.put, List.setIfInBounds_toArray, List.set_cons_zero, List.set_cons_succ])
    | (refine det_op (v := ?_) rfl (by rfl) (fun w' hS => ?_) ?_; rotate_left; (focus (obtain ⟨hcl, hxt⟩ := hS; go_wp2_with (first | ((with_reducible refine (stampRight_any a b _).mono ?_); rintro e w1 ⟨rfl, hx1⟩) | ((with_reducible refine (timeRight_any a b _).mono ?_); rintro e w1 ⟨rfl, hx1⟩) | ((with_reducible refine (cut_any a b _).mono ?_); rintro e w1 ⟨rfl, hx1⟩)); (first | refine ⟨?_, rfl, hcl, hxt⟩ | refine ⟨?_, rfl, Stood.of (hxt.trans (by assumption))⟩); rfl)); simp only [Act.put, List.setIfInBounds_toArray, List.set_cons_zero, List.set_cons_succ]))
  refine det_end ?_
  intro w1 hS
  have hx := hS.2
  clear hS
  go_wp2_with fail
  go_ret
  exact ⟨ret_bool (by simp), Ext.trans (by show Below _ _ _; go_grown) hx⟩

theorem walk : Frame.Walks 4 Try.f4 := by
  intro H enc W base args ds p hval hA _
  rw [Try.params4] at hA hval
  obtain ⟨v0, d0, rfl, rfl, h0⟩ := trodAll_one hA
  obtain ⟨c0, c1, y0, y1, m, rfl, rfl, rfl, hy0, hy1⟩ := open_agg2 Try.underlying23 (by kernel_rfl) cells_time (hval 0 23 v0 rfl rfl) h0
  obtain ⟨a, e0, rfl, wa⟩ := DataW.trod_int Try.underlying3 hy0
  obtain ⟨b, e1, rfl, wb⟩ := DataW.trod_int Try.underlying3 hy1
  simp at e0 e1
  subst e0 e1
  exact law a b W

/-! ### The row -/
theorem plain : Frame.Plain Rows.stampRightsSpec Try.f4 := by
  refine ⟨rfl, fun H ds h => ?_⟩
  rw [Try.params4] at h
  match ds, h with
  | [_], _ => rfl
theorem read : ∀ t ∈ Try.f4.params.toList, Try.prog.readableRec t = true ∧ t < Try.prog.types.size := by
  rw [Try.params4]
  intro t ht
  simp at ht
  subst ht
  all_goals exact ⟨by kernel_rfl, of_decide_eq_true (by kernel_rfl)⟩
set_option maxRecDepth 100000 in
theorem over : Rows.stampRightsRow.holds Try.pinned (OpenSpec.ofChange Rows.stampRightsSpec) :=
  OpenClaim.holds_of_wide 4 Try.f4 rfl rfl rfl rfl rfl rfl rfl ⟨rfl, rfl, rfl, rfl, rfl⟩ rfl rfl rfl rfl rfl (by kernel_rfl) Try.func4 (by kernel_rfl)
    (of_decide_eq_true (by kernel_rfl)) (by unfold Func.isWrapper; first | (rw [if_pos (by decide +kernel)]; kernel_rfl) | (rw [if_neg (by decide +kernel)]; exact ⟨rfl, rfl⟩))
    (fun os started H enc _ => Frame.lifted Try.func4 (by kernel_rfl) plain (by kernel_rfl) read walk os started H enc
      (ChangeSpec.witness6 (enc := enc) (C := Try.checked) false ⟨#[], #[.agg #[.int .i64 0, .int .i64 0]], []⟩ 8 (by kernel_rfl) (by kernel_rfl) (by kernel_rfl) (by kernel_rfl)))

theorem stampRights_holds : Rows.StampRightsSaid := over
#print axioms stampRights_holds
end Go.Proofs.Ytahibbijekfjiaa.stampRights
