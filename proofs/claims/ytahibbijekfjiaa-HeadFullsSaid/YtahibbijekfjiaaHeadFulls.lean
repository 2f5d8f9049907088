/-
  The law HeadFulls holds: Full returns what the reference returns for any header. No conditions.
-/
import Derived.Test.YtahibbijekfjiaaRaw
namespace Go.Proofs.Ytahibbijekfjiaa.headFulls
open Go.ChangeShapes Go.WideShapes Go.ChangeAt Go.RowKit

theorem law (nm lk us gr fr : ByteArray) (kd md ui gi sz tm ma mi : Int) (h1 : nm.size ≤ 140737488351232) (h2 : lk.size ≤ 140737488351232) (h3 : us.size ≤ 140737488351232) (h4 : gr.size ≤ 140737488351232) (h5 : fr.size ≤ 140737488351232)
    (w : World) : Calls Try.prog 6 #[.agg #[.string nm, .string lk, .string us, .string gr, .string fr, .int .u8 kd, .int .i64 md, .int .i64 ui, .int .i64 gi, .int .i64 sz, .int .i64 tm, .int .i64 ma, .int .i64 mi]] w fun e w' => e = .returned (.bool true) ∧ Ext w w' := by
  have ht := fun w => thick_any nm lk us gr fr kd md ui gi sz tm ma mi w h1 h2 h3 h4 h5
  by_cases h : 900 < (nm.size : Int) + lk.size + us.size + gr.size + fr.size
  · simp only [h, decide_true] at ht
    have Ht := Lib.hid ht
    clear ht h
    go_enter Try.func6, Try.ntmps6
    go_wp2_with fail
    refine wp_region_det (Stood _) (by kernel_rfl) (by kernel_rfl) (Stood.start _) ?_
    repeat (first
      | (refine det_skip (by rfl) ?_; simp only [Act.put, List.setIfInBounds_toArray, List.set_cons_zero, List.set_cons_succ])
      | (refine det_op (v := ?_) rfl (by rfl) (fun w' hS => ?_) ?_; rotate_left; (focus (obtain ⟨hcl, hxt⟩ := hS; go_wp2_with (first | ((with_reducible refine (Ht.out _).mono ?_); rintro e w1 ⟨rfl, hx1⟩)); (first | refine ⟨?_, rfl, hcl, hxt⟩ | refine ⟨?_, rfl, Stood.of (hxt.trans (by assumption))⟩); rfl)); simp only [Act.put, List.setIfInBounds_toArray, List.set_cons_zero, List.set_cons_succ]))
    refine det_end ?_
    intro w1 hS
    have hx := hS.2
    clear hS
    go_wp2_with fail
    go_ret
    exact ⟨ret_bool (by simp), Ext.trans (by show Below _ _ _; go_grown) hx⟩
  · simp only [h, decide_false] at ht
    have Ht := Lib.hid ht
    clear ht h
    go_enter Try.func6, Try.ntmps6
    go_wp2_with fail
    refine wp_region_det (Stood _) (by kernel_rfl) (by kernel_rfl) (Stood.start _) ?_
    repeat (first
      | (refine det_skip (by rfl) ?_; simp only [Act.put, List.setIfInBounds_toArray, List.set_cons_zero, List.set_cons_succ])
      | (refine det_op (v := ?_) rfl (by rfl) (fun w' hS => ?_) ?_; rotate_left; (focus (obtain ⟨hcl, hxt⟩ := hS; go_wp2_with (first | ((with_reducible refine (Ht.out _).mono ?_); rintro e w1 ⟨rfl, hx1⟩) | ((with_reducible refine (rawOf_any nm lk us gr fr kd md ui gi sz tm ma mi _).mono ?_); rintro e w1 ⟨rfl, hx1⟩) | ((with_reducible refine (full_any nm lk us gr fr kd md ui gi sz tm ma mi _ h1 h5).mono ?_); rintro e w1 ⟨rfl, hx1⟩) | ((with_reducible refine (refFull_any nm lk us gr fr kd md ui gi sz tm ma mi _ h1 h5).mono ?_); rintro e w1 ⟨rfl, hx1⟩)); (first | refine ⟨?_, rfl, hcl, hxt⟩ | refine ⟨?_, rfl, Stood.of (hxt.trans (by assumption))⟩); rfl)); simp only [Act.put, List.setIfInBounds_toArray, List.set_cons_zero, List.set_cons_succ]))
    refine det_end ?_
    intro w1 hS
    have hx := hS.2
    clear hS
    go_wp2_with fail
    go_ret
    exact ⟨ret_bool (by simp), Ext.trans (by show Below _ _ _; go_grown) hx⟩

theorem walk : Frame.Walks 6 Try.f6 := by
  intro H enc W base args ds p hval hA hsz
  rw [Try.params6] at hA hval hsz
  obtain ⟨v0, d0, rfl, rfl, h0⟩ := trodAll_one hA
  obtain ⟨nm, lk, us, gr, fr, kd, md, ui, gi, sz, tm, ma, mi, rfl, h1, h2, h3, h4, h5⟩ := arg_raw (hval 0 30 v0 rfl rfl) h0 hsz (j := 0) rfl rfl
  exact law nm lk us gr fr kd md ui gi sz tm ma mi h1 h2 h3 h4 h5 W

/-! ### The row -/
theorem plain : Frame.Plain Rows.headFullsSpec Try.f6 := by
  refine ⟨rfl, fun H ds h => ?_⟩
  rw [Try.params6] at h
  match ds, h with
  | [_], _ => rfl
theorem read : ∀ t ∈ Try.f6.params.toList, Try.prog.readableRec t = true ∧ t < Try.prog.types.size := by
  rw [Try.params6]
  intro t ht
  simp at ht
  subst ht
  all_goals exact ⟨by kernel_rfl, of_decide_eq_true (by kernel_rfl)⟩
set_option maxRecDepth 100000 in
theorem over : Rows.headFullsRow.holds Try.pinned (OpenSpec.ofChange Rows.headFullsSpec) :=
  OpenClaim.holds_of_wide 6 Try.f6 rfl rfl rfl rfl rfl rfl rfl ⟨rfl, rfl, rfl, rfl, rfl⟩ rfl rfl rfl rfl rfl (by kernel_rfl) Try.func6 (by kernel_rfl)
    (of_decide_eq_true (by kernel_rfl)) (by unfold Func.isWrapper; first | (rw [if_pos (by decide +kernel)]; kernel_rfl) | (rw [if_neg (by decide +kernel)]; exact ⟨rfl, rfl⟩))
    (fun os started H enc _ => Frame.lifted Try.func6 (by kernel_rfl) plain (by kernel_rfl) read walk os started H enc
      (ChangeSpec.witness6 (enc := enc) (C := Try.checked) false ⟨#[], #[.agg #[.string ⟨#[]⟩, .string ⟨#[]⟩, .string ⟨#[]⟩, .string ⟨#[]⟩, .string ⟨#[]⟩, .int .u8 0, .int .i64 0, .int .i64 0, .int .i64 0, .int .i64 0, .int .i64 0, .int .i64 0, .int .i64 0]], []⟩ 8 (by kernel_rfl) (by kernel_rfl) (by kernel_rfl) (by kernel_rfl)))

theorem headFulls_holds : Rows.HeadFullsSaid := over
#print axioms headFulls_holds
end Go.Proofs.Ytahibbijekfjiaa.headFulls
