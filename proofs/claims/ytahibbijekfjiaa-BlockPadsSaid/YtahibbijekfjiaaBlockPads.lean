/-
  The law BlockPads holds: block.Pad returns what the reference returns for any number. No conditions.
-/
import Derived.Test.YtahibbijekfjiaaBlock
namespace Go.Proofs.Ytahibbijekfjiaa.blockPads
open Go.ChangeShapes Go.WideShapes Go.ChangeAt Go.RowKit

theorem law (n : Int) (w : World) : Calls Try.prog 5 #[.int .i64 n] w fun e w' => e = .returned (.bool true) ∧ Ext w w' := by
  by_cases h : 1099511627776 < n
  · go_enter Try.func5, Try.ntmps5
    go_wp2_with fail
    go_ret
    exact ⟨ret_bool (by simp), (by show Below _ _ _; go_grown)⟩
  · have h' : n ≤ 1099511627776 := by omega
    go_enter Try.func5, Try.ntmps5
    go_wp2_with fail
    refine (pad_any n _).mono ?_; rintro e w1 ⟨rfl, hx1⟩
    go_wp2_with fail
    refine (refPad_any n h' _).mono ?_; rintro e w2 ⟨rfl, hx2⟩
    go_wp2_with fail
    go_ret
    exact ⟨ret_bool (by simp), hx1.trans hx2⟩

theorem walk : Frame.Walks 5 Try.f5 := by
  intro H enc W base args ds p hval hA _
  rw [Try.params5] at hA hval
  obtain ⟨v0, d0, rfl, rfl, h0⟩ := trodAll_one hA
  obtain ⟨a, rfl, rfl, rfl, wa⟩ := open_int Try.underlying3 (hval 0 3 v0 rfl rfl) h0
  exact law a W

/-! ### The row -/
theorem plain : Frame.Plain Rows.blockPadsSpec Try.f5 := by
  refine ⟨rfl, fun H ds h => ?_⟩
  rw [Try.params5] at h
  match ds, h with
  | [_], _ => rfl
theorem read : ∀ t ∈ Try.f5.params.toList, Try.prog.readableRec t = true ∧ t < Try.prog.types.size := by
  rw [Try.params5]
  intro t ht
  simp at ht
  subst ht
  all_goals exact ⟨by kernel_rfl, of_decide_eq_true (by kernel_rfl)⟩
set_option maxRecDepth 100000 in
theorem over : Rows.blockPadsRow.holds Try.pinned (OpenSpec.ofChange Rows.blockPadsSpec) :=
  OpenClaim.holds_of_wide 5 Try.f5 rfl rfl rfl rfl rfl rfl rfl ⟨rfl, rfl, rfl, rfl, rfl⟩ rfl rfl rfl rfl rfl (by kernel_rfl) Try.func5 (by kernel_rfl)
    (of_decide_eq_true (by kernel_rfl)) (by unfold Func.isWrapper; first | (rw [if_pos (by decide +kernel)]; kernel_rfl) | (rw [if_neg (by decide +kernel)]; exact ⟨rfl, rfl⟩))
    (fun os started H enc _ => Frame.lifted Try.func5 (by kernel_rfl) plain (by kernel_rfl) read walk os started H enc
      (ChangeSpec.witness6 (enc := enc) (C := Try.checked) false ⟨#[], #[.int .i64 0], []⟩ 8 (by kernel_rfl) (by kernel_rfl) (by kernel_rfl) (by kernel_rfl)))

theorem blockPads_holds : Rows.BlockPadsSaid := over
#print axioms blockPads_holds
end Go.Proofs.Ytahibbijekfjiaa.blockPads
