/-
  The law PathHalves holds: path.Split returns what the reference returns for any name. No conditions.
-/
import Derived.Test.YtahibbijekfjiaaPath
namespace Go.Proofs.Ytahibbijekfjiaa.pathHalves
open Go.ChangeShapes Go.WideShapes Go.ChangeAt Go.RowKit
open Go.ChangeMaps (open_string shut_string)

theorem law (s : ByteArray) (w : World) : Calls Try.prog 9 #[.string s] w fun e w' => e = .returned (.bool true) ∧ Ext w w' := by
  by_cases h : 400 < s.size
  · go_enter Try.func9, Try.ntmps9
    go_wp2_with fail
    go_ret
    exact ⟨ret_bool (by simp), (by show Below _ _ _; go_grown)⟩
  · have h1 : s.size ≤ 400 := by omega
    clear h
    have c1 := fun w => refSplit_any s (by omega) w
    have c2 := fun w => split_any s (by omega) w
    obtain ⟨a, b, c, hv⟩ := splitV_form s
    rw [hv] at c1 c2
    have C1 := Lib.hid c1
    have C2 := Lib.hid c2
    clear c1 c2 hv
    go_enter Try.func9, Try.ntmps9
    go_wp2_with fail
    refine (C1.out _).mono ?_; rintro e w1 ⟨rfl, hx1⟩
    go_wp2_with fail
    refine (C2.out _).mono ?_; rintro e w2 ⟨rfl, hx2⟩
    go_wp2_with fail
    go_ret
    exact ⟨ret_bool (by simp), hx1.trans hx2⟩

theorem walk : Frame.Walks 9 Try.f9 := by
  intro H enc W base args ds p hval hA _
  rw [Try.params9] at hA hval
  obtain ⟨v0, d0, rfl, rfl, h0⟩ := trodAll_one hA
  obtain ⟨s, rfl, rfl, rfl, hs⟩ := open_string Try.underlying9 (hval 0 9 v0 rfl rfl) h0
  exact law s W

/-! ### The row -/
theorem plain : Frame.Plain Rows.pathHalvesSpec Try.f9 := by
  refine ⟨rfl, fun H ds h => ?_⟩
  rw [Try.params9] at h
  match ds, h with
  | [_], _ => rfl
theorem read : ∀ t ∈ Try.f9.params.toList, Try.prog.readableRec t = true ∧ t < Try.prog.types.size := by
  rw [Try.params9]
  intro t ht
  simp at ht
  subst ht
  all_goals exact ⟨by kernel_rfl, of_decide_eq_true (by kernel_rfl)⟩
set_option maxRecDepth 100000 in
theorem over : Rows.pathHalvesRow.holds Try.pinned (OpenSpec.ofChange Rows.pathHalvesSpec) :=
  OpenClaim.holds_of_wide 9 Try.f9 rfl rfl rfl rfl rfl rfl rfl ⟨rfl, rfl, rfl, rfl, rfl⟩ rfl rfl rfl rfl rfl (by kernel_rfl) Try.func9 (by kernel_rfl)
    (of_decide_eq_true (by kernel_rfl)) (by unfold Func.isWrapper; first | (rw [if_pos (by decide +kernel)]; kernel_rfl) | (rw [if_neg (by decide +kernel)]; exact ⟨rfl, rfl⟩))
    (fun os started H enc _ => Frame.lifted Try.func9 (by kernel_rfl) plain (by kernel_rfl) read walk os started H enc
      (ChangeSpec.witness6 (enc := enc) (C := Try.checked) false ⟨#[], #[.string ⟨#[]⟩], []⟩ 8 (by kernel_rfl) (by kernel_rfl) (by kernel_rfl) (by kernel_rfl)))

theorem pathHalves_holds : Rows.PathHalvesSaid := over
#print axioms pathHalves_holds
end Go.Proofs.Ytahibbijekfjiaa.pathHalves
