/-
  The law NumberMost holds: number.Most returns what the reference returns for any width. No conditions.
-/
import Derived.Test.YtahibbijekfjiaaNum
namespace Go.Proofs.Ytahibbijekfjiaa.numberMost
open Go.ChangeShapes Go.WideShapes Go.ChangeAt Go.RowKit

theorem law (n : Int) (w : World) : Calls Try.prog 8 #[.int .i64 n] w fun e w' => e = .returned (.bool true) ∧ Ext w w' := by
  go_enter Try.func8, Try.ntmps8
  go_wp2_with fail
  refine (most_any n _).mono ?_; rintro e w1 ⟨rfl, hx1⟩
  go_wp2_with fail
  refine (refMost_any n _).mono ?_; rintro e w2 ⟨rfl, hx2⟩
  go_wp2_with fail
  go_ret
  exact ⟨ret_bool (by simp), hx1.trans hx2⟩

theorem walk : Frame.Walks 8 Try.f8 := by
  intro H enc W base args ds p hval hA _
  rw [Try.params8] at hA hval
  obtain ⟨v0, d0, rfl, rfl, h0⟩ := trodAll_one hA
  obtain ⟨a, rfl, rfl, rfl, wa⟩ := open_int Try.underlying3 (hval 0 3 v0 rfl rfl) h0
  exact law a W

/-! ### The row -/
theorem plain : Frame.Plain Rows.numberMostSpec Try.f8 := by
  refine ⟨rfl, fun H ds h => ?_⟩
  rw [Try.params8] at h
  match ds, h with
  | [_], _ => rfl
theorem read : ∀ t ∈ Try.f8.params.toList, Try.prog.readableRec t = true ∧ t < Try.prog.types.size := by
  rw [Try.params8]
  intro t ht
  simp at ht
  subst ht
  all_goals exact ⟨by kernel_rfl, of_decide_eq_true (by kernel_rfl)⟩
set_option maxRecDepth 100000 in
theorem over : Rows.numberMostRow.holds Try.pinned (OpenSpec.ofChange Rows.numberMostSpec) :=
  OpenClaim.holds_of_wide 8 Try.f8 rfl rfl rfl rfl rfl rfl rfl ⟨rfl, rfl, rfl, rfl, rfl⟩ rfl rfl rfl rfl rfl (by kernel_rfl) Try.func8 (by kernel_rfl)
    (of_decide_eq_true (by kernel_rfl)) (by unfold Func.isWrapper; first | (rw [if_pos (by decide +kernel)]; kernel_rfl) | (rw [if_neg (by decide +kernel)]; exact ⟨rfl, rfl⟩))
    (fun os started H enc _ => Frame.lifted Try.func8 (by kernel_rfl) plain (by kernel_rfl) read walk os started H enc
      (ChangeSpec.witness6 (enc := enc) (C := Try.checked) false ⟨#[], #[.int .i64 0], []⟩ 8 (by kernel_rfl) (by kernel_rfl) (by kernel_rfl) (by kernel_rfl)))

theorem numberMost_holds : Rows.NumberMostSaid := over
#print axioms numberMost_holds
end Go.Proofs.Ytahibbijekfjiaa.numberMost
