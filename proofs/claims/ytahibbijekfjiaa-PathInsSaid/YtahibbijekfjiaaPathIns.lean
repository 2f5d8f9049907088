/-
  The law PathIns holds: path.In returns what the reference returns for any names. No conditions.
-/
import Derived.Test.YtahibbijekfjiaaPath
namespace Go.Proofs.Ytahibbijekfjiaa.pathIns
open Go.ChangeShapes Go.WideShapes Go.ChangeAt Go.RowKit
open Go.ChangeMaps (open_string shut_string)

theorem law (s d : ByteArray) (hs : s.size ≤ 140737488351232) (hd : d.size ≤ 140737488351232) (w : World) : Calls Try.prog 7 #[.string s, .string d] w fun e w' => e = .returned (.bool true) ∧ Ext w w' := by
  have c1 := fun w => refIn_any s d (by omega) (by omega) w
  rw [in_eq] at c1
  have C1 := Lib.hid c1
  clear c1
  by_cases h : (400 : Int) < (s.size : Int) + (d.size : Int)
  · go_enter Try.func7, Try.ntmps7
    go_wp2_with fail
    go_ret
    exact ⟨ret_bool (by simp), (by show Below _ _ _; go_grown)⟩
  · have h1 : (s.size : Int) + (d.size : Int) ≤ 400 := by omega
    clear h
    go_enter Try.func7, Try.ntmps7
    go_wp2_with fail
    refine (in_any s d (by omega) _).mono ?_; rintro e w1 ⟨rfl, hx1⟩
    go_wp2_with fail
    refine (C1.out _).mono ?_; rintro e w2 ⟨rfl, hx2⟩
    go_wp2_with fail
    go_ret
    exact ⟨ret_bool (by simp), hx1.trans hx2⟩

theorem walk : Frame.Walks 7 Try.f7 := by
  intro H enc W base args ds p hval hA hsz
  rw [Try.params7] at hA hval hsz
  obtain ⟨v0, v1, d0, d1, p0, p1, rfl, rfl, rfl, h0, h1⟩ := trodAll_two hA
  obtain ⟨s, rfl, rfl, rfl, hs⟩ := open_string Try.underlying9 (hval 0 9 v0 rfl rfl) h0
  obtain ⟨d, rfl, rfl, rfl, hd⟩ := open_string Try.underlying9 (hval 1 9 v1 rfl rfl) h1
  have z0 := sized_string hsz (j := 0) (t := 9) rfl rfl
  have z1 := sized_string hsz (j := 1) (t := 9) rfl rfl
  exact law s d (by simpa [reachBytes] using z0) (by simpa [reachBytes] using z1) W

/-! ### The row -/
theorem plain : Frame.Plain Rows.pathInsSpec Try.f7 := by
  refine ⟨rfl, fun H ds h => ?_⟩
  rw [Try.params7] at h
  match ds, h with
  | [_, _], _ => rfl
theorem read : ∀ t ∈ Try.f7.params.toList, Try.prog.readableRec t = true ∧ t < Try.prog.types.size := by
  rw [Try.params7]
  intro t ht
  simp at ht
  subst ht
  all_goals exact ⟨by kernel_rfl, of_decide_eq_true (by kernel_rfl)⟩
set_option maxRecDepth 100000 in
theorem over : Rows.pathInsRow.holds Try.pinned (OpenSpec.ofChange Rows.pathInsSpec) :=
  OpenClaim.holds_of_wide 7 Try.f7 rfl rfl rfl rfl rfl rfl rfl ⟨rfl, rfl, rfl, rfl, rfl⟩ rfl rfl rfl rfl rfl (by kernel_rfl) Try.func7 (by kernel_rfl)
    (of_decide_eq_true (by kernel_rfl)) (by unfold Func.isWrapper; first | (rw [if_pos (by decide +kernel)]; kernel_rfl) | (rw [if_neg (by decide +kernel)]; exact ⟨rfl, rfl⟩))
    (fun os started H enc _ => Frame.lifted Try.func7 (by kernel_rfl) plain (by kernel_rfl) read walk os started H enc
      (ChangeSpec.witness6 (enc := enc) (C := Try.checked) false ⟨#[], #[.string ⟨#[]⟩, .string ⟨#[]⟩], []⟩ 8 (by kernel_rfl) (by kernel_rfl) (by kernel_rfl) (by kernel_rfl)))

theorem pathIns_holds : Rows.PathInsSaid := over
#print axioms pathIns_holds
end Go.Proofs.Ytahibbijekfjiaa.pathIns
