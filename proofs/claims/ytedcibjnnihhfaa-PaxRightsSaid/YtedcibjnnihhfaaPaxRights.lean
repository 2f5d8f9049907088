/-
  The law PaxRights holds: Right returns what the reference returns for any pair. No conditions.
-/
import Derived.Test.YtedcibjnnihhfaaPair
import Derived.Test.YtedcibjnnihhfaaDet
import Derived.Test.YtedcibjnnihhfaaPairArg
namespace Go.Proofs.Ytedcibjnnihhfaa.paxRights
open Go.ChangeShapes Go.WideShapes Go.ChangeAt Go.RowKit Go.Joins

set_option maxHeartbeats 1600000 in
set_option maxRecDepth 100000 in
theorem law (k v : ByteArray) (hk : k.size ≤ 140737488351232) (hv : v.size ≤ 140737488351232) (w : World) :
    Calls Try.prog 5 #[.agg #[.string k, .string v]] w fun e w' => e = .returned (.bool true) ∧ Ext w w' := by
  by_cases h : 500 < (k.size : Int) + v.size
  · have q1 : decide ((500 : Int) < (k.size : Int) + v.size) = true := decide_eq_true h
    clear h
    go_enter Try.func5, Try.ntmps5
    go_wp2_with fail
    refine wp_region_det (Stood _) (by kernel_rfl) (by kernel_rfl) (Stood.start _) ?_
    repeat (first
      | (refine det_skip (by rfl) ?_; simp only [Act.put, List.setIfInBounds_toArray, List.set_cons_zero, List.set_cons_succ])
      | (refine det_op (v := ?_) rfl (by rfl) (fun w' hS => ?_) ?_; rotate_left; (focus (obtain ⟨hcl, hxt⟩ := hS; go_wp2_with (fail); (first | refine ⟨?_, rfl, hcl, hxt⟩ | refine ⟨?_, rfl, Stood.of (hxt.trans (by assumption))⟩); (first | (simp only [List.getElem?_toArray, List.getElem?_cons_succ, List.getElem?_cons_zero]; rfl) | rfl))); simp only [Act.put, List.setIfInBounds_toArray, List.set_cons_zero, List.set_cons_succ]))
    refine det_end ?_
    intro w1 hS
    have hx := hS.2
    clear hS
    go_wp2_with fail
    go_ret
    exact ⟨ret_bool (by simp), Ext.trans (by show Below _ _ _; repeat' (first | (with_reducible exact Below.refl _ _) | (with_reducible assumption) | (with_reducible refine belowDrewN ?_ _) | (with_reducible refine Below.alloc ?_ ?_ _) | (with_reducible refine Below.drew ?_) | (with_reducible refine Below.setCell ?_ ?_ _) | go_size)) hx⟩
  · have q1 : decide ((500 : Int) < (k.size : Int) + v.size) = false := decide_eq_false h
    have C1 := Lib.hid (fun w => paxRight_any k v (by omega) (by omega) (by omega) w)
    have C2 := Lib.hid (fun w => pairRight_any k v (by omega) (by omega) w)
    clear h
    generalize pairB k v = p at *
    go_enter Try.func5, Try.ntmps5
    go_wp2_with fail
    refine wp_region_det (Stood _) (by kernel_rfl) (by kernel_rfl) (Stood.start _) ?_
    repeat (first
      | (refine det_skip (by rfl) ?_; simp only [Act.put, List.setIfInBounds_toArray, List.set_cons_zero, List.set_cons_succ])
      | (refine det_op (v := ?_) rfl (by rfl) (fun w' hS => ?_) ?_; rotate_left; (focus (obtain ⟨hcl, hxt⟩ := hS; go_wp2_with (first | ((with_reducible refine (C1.out _).mono ?_); rintro e w1 ⟨rfl, hx1⟩) | ((with_reducible refine (C2.out _).mono ?_); rintro e w1 ⟨rfl, hx1⟩)); (first | refine ⟨?_, rfl, hcl, hxt⟩ | refine ⟨?_, rfl, Stood.of (hxt.trans (by assumption))⟩); (first | (simp only [List.getElem?_toArray, List.getElem?_cons_succ, List.getElem?_cons_zero]; rfl) | rfl))); simp only [Act.put, List.setIfInBounds_toArray, List.set_cons_zero, List.set_cons_succ]))
    refine det_end ?_
    intro w1 hS
    have hx := hS.2
    clear hS
    go_wp2_with fail
    go_ret
    exact ⟨ret_bool (by simp), Ext.trans (by show Below _ _ _; repeat' (first | (with_reducible exact Below.refl _ _) | (with_reducible assumption) | (with_reducible refine belowDrewN ?_ _) | (with_reducible refine Below.alloc ?_ ?_ _) | (with_reducible refine Below.drew ?_) | (with_reducible refine Below.setCell ?_ ?_ _) | go_size)) hx⟩

theorem walk : Frame.Walks 5 Try.f5 := by
  intro H enc W base args ds p hval hA hsz
  rw [Try.params5] at hA hval hsz
  obtain ⟨v0, d0, rfl, rfl, h0⟩ := trodAll_one hA
  obtain ⟨k, v, rfl, h1, h2⟩ := arg_pair (hval 0 29 v0 rfl rfl) h0 hsz (j := 0) rfl rfl
  exact law k v h1 h2 W

/-! ### The row -/
theorem plain : Frame.Plain Rows.paxRightsSpec Try.f5 := by
  refine ⟨rfl, fun H ds h => ?_⟩
  rw [Try.params5] at h
  match ds, h with
  | [_], _ => rfl
theorem read : ∀ t ∈ Try.f5.params.toList, Try.prog.readableRec t = true ∧ t < Try.prog.types.size := by
  rw [Try.params5]
  intro t ht
  simp at ht
  subst ht
  all_goals exact ⟨by kernel_rfl, of_decide_eq_true (by kernel_rfl)⟩
set_option maxRecDepth 100000 in
theorem over : Rows.paxRightsRow.holds Try.pinned (OpenSpec.ofChange Rows.paxRightsSpec) :=
  OpenClaim.holds_of_wide 5 Try.f5 rfl rfl rfl rfl rfl rfl rfl ⟨rfl, rfl, rfl, rfl, rfl⟩ rfl rfl rfl rfl rfl (by kernel_rfl) Try.func5 (by kernel_rfl)
    (of_decide_eq_true (by kernel_rfl)) (by unfold Func.isWrapper; first | (rw [if_pos (by decide +kernel)]; kernel_rfl) | (rw [if_neg (by decide +kernel)]; exact ⟨rfl, rfl⟩))
    (fun os started H enc _ => Frame.lifted Try.func5 (by kernel_rfl) plain (by kernel_rfl) read walk os started H enc
      (ChangeSpec.witness6 (enc := enc) (C := Try.checked) false ⟨#[], #[.agg #[.string ⟨#[]⟩, .string ⟨#[]⟩]], []⟩ 8 (by kernel_rfl) (by kernel_rfl) (by kernel_rfl) (by kernel_rfl)))

theorem paxRights_holds : Rows.PaxRightsSaid := over
#print axioms paxRights_holds
end Go.Proofs.Ytedcibjnnihhfaa.paxRights
