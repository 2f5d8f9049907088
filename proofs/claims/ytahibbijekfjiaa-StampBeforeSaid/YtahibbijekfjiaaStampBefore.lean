/-
  The law StampBefore holds: stamp.Before returns what the reference returns for any times. No conditions.
-/
import Derived.Test.YtahibbijekfjiaaDet
namespace Go.Proofs.Ytahibbijekfjiaa.stampBefore
open Go.ChangeShapes Go.WideShapes Go.ChangeAt Go.RowKit Go.Joins
open Go.ChangeMaps (open_string shut_string)

theorem cells_time : Try.prog.cellsOf 23 = 2 := by kernel_rfl
/-- What stamp.Before answers. -/
def befB (a b c d : Int) : Bool := decide (a < c) || (a == c && decide (b < d))

theorem before_any (a b c d : Int) (w : World) : Calls Try.prog 15 #[.agg #[.int .i64 a, .int .i64 b], .agg #[.int .i64 c, .int .i64 d]] w fun e w' => e = .returned (.bool (befB a b c d)) ∧ Ext w w' := by
  by_cases h1 : a < c
  · have e : befB a b c d = true := by simp [befB, h1]
    rw [e]; clear e
    go_enter Try.func15, Try.ntmps15
    go_wp2_with fail
    go_ret
    exact ⟨rfl, by show Below _ _ _; go_grown⟩
  · by_cases h2 : a = c
    · subst h2
      have e : befB a b a d = decide (b < d) := by simp [befB]
      rw [e]; clear e
      have h3 : (a == a) = true := by simp
      go_enter Try.func15, Try.ntmps15
      go_wp2_with fail
      go_ret
      exact ⟨rfl, by show Below _ _ _; go_grown⟩
    · have e : befB a b c d = false := by simp [befB, h1, h2]
      rw [e]; clear e
      have h3 : (a == c) = false := by simpa using h2
      go_enter Try.func15, Try.ntmps15
      go_wp2_with fail
      go_ret
      exact ⟨rfl, by show Below _ _ _; go_grown⟩

set_option maxHeartbeats 1600000 in
theorem law (a b c d : Int) (w : World) : Calls Try.prog 3 #[.agg #[.int .i64 a, .int .i64 b], .agg #[.int .i64 c, .int .i64 d]] w fun e w' => e = .returned (.bool true) ∧ Ext w w' := by
  rcases (show (decide (a < c) = true ∧ (a == c) = false) ∨ (decide (a < c) = false ∧ (a == c) = false) ∨ (decide (a < c) = false ∧ (a == c) = true) from by simp; omega) with ⟨h1, h3⟩ | ⟨h1, h3⟩ | ⟨h1, h3⟩
  all_goals
    have He : Hid (befB a b c d = (decide (a < c) || (a == c && decide (b < d)))) := rfl
    go_enter Try.func3, Try.ntmps3
    go_wp2_with fail
    refine wp_region_det (Stood _) (by kernel_rfl) (by kernel_rfl) (Stood.start _) ?_
    repeat (first
      | (refine det_skip (by rfl) ?_; simp only [Act.put, List.setIfInBounds_toArray, List.set_cons_zero, List.set_cons_succ])
      | (refine det_op (v := ?_) rfl (by rfl) (fun w' hS => ?_) ?_; rotate_left; (focus (obtain ⟨hcl, hxt⟩ := hS; go_wp2_with (first | ((with_reducible refine (before_any a b c d _).mono ?_); rintro e w1 ⟨rfl, hx1⟩)); (first | refine ⟨?_, rfl, hcl, hxt⟩ | refine ⟨?_, rfl, Stood.of (hxt.trans (by assumption))⟩); rfl)); simp only [Act.put, List.setIfInBounds_toArray, List.set_cons_zero, List.set_cons_succ]))
    refine det_end ?_
    intro w1 hS
    have hx := hS.2
    clear hS
    go_wp2_with fail
    go_ret
    exact ⟨ret_bool (by rw [He.out]; simp [h1, h3]), Ext.trans (by show Below _ _ _; go_grown) hx⟩

theorem walk : Frame.Walks 3 Try.f3 := by
  intro H enc W base args ds p hval hA _
  rw [Try.params3] at hA hval
  obtain ⟨v0, v1, d0, d1, p0, p1, rfl, rfl, rfl, h0, h1⟩ := trodAll_two hA
  obtain ⟨c0, c1, y0, y1, m, rfl, rfl, rfl, hy0, hy1⟩ := open_agg2 Try.underlying23 (by kernel_rfl) cells_time (hval 0 23 v0 rfl rfl) h0
  obtain ⟨c2, c3, y2, y3, m', rfl, rfl, rfl, hy2, hy3⟩ := open_agg2 Try.underlying23 (by kernel_rfl) cells_time (hval 1 23 v1 rfl rfl) h1
  obtain ⟨a, e0, rfl, wa⟩ := DataW.trod_int Try.underlying3 hy0
  obtain ⟨b, e1, rfl, wb⟩ := DataW.trod_int Try.underlying3 hy1
  obtain ⟨c, e2, rfl, wc⟩ := DataW.trod_int Try.underlying3 hy2
  obtain ⟨d, e3, rfl, wd⟩ := DataW.trod_int Try.underlying3 hy3
  simp at e0 e1 e2 e3
  subst e0 e1 e2 e3
  exact law a b c d W

/-! ### The row -/
theorem plain : Frame.Plain Rows.stampBeforeSpec Try.f3 := by
  refine ⟨rfl, fun H ds h => ?_⟩
  rw [Try.params3] at h
  match ds, h with
  | [_, _], _ => rfl
theorem read : ∀ t ∈ Try.f3.params.toList, Try.prog.readableRec t = true ∧ t < Try.prog.types.size := by
  rw [Try.params3]
  intro t ht
  simp at ht
  subst ht
  all_goals exact ⟨by kernel_rfl, of_decide_eq_true (by kernel_rfl)⟩
set_option maxRecDepth 100000 in
theorem over : Rows.stampBeforeRow.holds Try.pinned (OpenSpec.ofChange Rows.stampBeforeSpec) :=
  OpenClaim.holds_of_wide 3 Try.f3 rfl rfl rfl rfl rfl rfl rfl ⟨rfl, rfl, rfl, rfl, rfl⟩ rfl rfl rfl rfl rfl (by kernel_rfl) Try.func3 (by kernel_rfl)
    (of_decide_eq_true (by kernel_rfl)) (by unfold Func.isWrapper; first | (rw [if_pos (by decide +kernel)]; kernel_rfl) | (rw [if_neg (by decide +kernel)]; exact ⟨rfl, rfl⟩))
    (fun os started H enc _ => Frame.lifted Try.func3 (by kernel_rfl) plain (by kernel_rfl) read walk os started H enc
      (ChangeSpec.witness6 (enc := enc) (C := Try.checked) false ⟨#[], #[.agg #[.int .i64 0, .int .i64 0], .agg #[.int .i64 0, .int .i64 0]], []⟩ 8 (by kernel_rfl) (by kernel_rfl) (by kernel_rfl) (by kernel_rfl)))

theorem stampBefore_holds : Rows.StampBeforeSaid := over
#print axioms stampBefore_holds
end Go.Proofs.Ytahibbijekfjiaa.stampBefore
