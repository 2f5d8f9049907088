/-
  The law GlobRights holds: Right returns what the reference returns for any text. No conditions.
-/
import Derived.Test.YtiiaoagobjgkiaaGlP
import Derived.Test.YtiiaoagobjgkiaaGlI
import Derived.Test.YtiiaoagobjgkiaaNum
namespace Go.Proofs.Ytiiaoagobjgkiaa.globRights
open Go.ChangeShapes Go.WideShapes Go.ChangeAt Go.RowKit
open Go.ChangeMaps (open_string shut_string)

set_option maxHeartbeats 1600000 in
set_option maxRecDepth 100000 in
theorem right_any (s : ByteArray) (hs : s.size ≤ 100000) (w : World) : Calls Try.prog 5 #[.string s] w fun x w' => x = .returned (.bool (!decide (120 < s.size) && isV s)) ∧ Ext w w' := by
  by_cases h : 120 < s.size
  · have q : decide ((120 : Int) < (s.size : Int)) = true := decide_eq_true (by omega)
    have hv : Hid ((!decide (120 < s.size) && isV s) = false) := Lib.hid (by rw [decide_eq_true h]; rfl)
    clear h
    go_enter Try.func5, Try.ntmps5
    go_wp2_with fail
    go_ret
    exact ⟨ret_bool (by rw [hv.out]), (by show Below _ _ _; repeat' (first | (with_reducible exact Below.refl _ _) | (with_reducible assumption) | (with_reducible refine belowDrewN ?_ _) | (with_reducible refine Below.alloc ?_ ?_ _) | (with_reducible refine Below.drew ?_) | (with_reducible refine Below.setCell ?_ ?_ _) | go_size))⟩
  · have q : decide ((120 : Int) < (s.size : Int)) = false := decide_eq_false (by omega)
    have hv : Hid ((!decide (120 < s.size) && isV s) = (parseV s).isSome) := Lib.hid (by
      rw [decide_eq_false h]
      show isV s = _
      exact (parse_is (s.size + 1) s (Nat.lt_succ_self _)).symm)
    have CP := Lib.hid (fun w => glParse_any s hs w)
    clear h
    go_enter Try.func5, Try.ntmps5
    go_wp2_with fail
    refine (CP.out _).mono ?_; rintro x w1 ⟨v, ok, rfl, hx1, hcase⟩
    have hok : Hid (ok = (parseV s).isSome) := Lib.hid (by
      rcases hcase with ⟨h1, h2⟩ | ⟨l, h1, h2, _⟩
      · rw [h1, h2]; rfl
      · rw [h1, h2]; rfl)
    clear hcase
    go_wp2_with fail
    go_ret
    exact ⟨ret_bool (by rw [hv.out, ← hok.out]), hx1⟩
set_option maxHeartbeats 1600000 in
set_option maxRecDepth 100000 in
theorem law (s : ByteArray) (w : World) : Calls Try.prog 3 #[.string s] w fun x w' => x = .returned (.bool true) ∧ Ext w w' := by
  by_cases h : 130 < s.size
  · have q : decide ((130 : Int) < (s.size : Int)) = true := decide_eq_true (by omega)
    clear h
    go_enter Try.func3, Try.ntmps3
    go_wp2_with fail
    go_ret
    exact ⟨ret_bool (by simp), (by show Below _ _ _; repeat' (first | (with_reducible exact Below.refl _ _) | (with_reducible assumption) | (with_reducible refine belowDrewN ?_ _) | (with_reducible refine Below.alloc ?_ ?_ _) | (with_reducible refine Below.drew ?_) | (with_reducible refine Below.setCell ?_ ?_ _) | go_size))⟩
  · have q : decide ((130 : Int) < (s.size : Int)) = false := decide_eq_false (by omega)
    have c1 := fun w => right_any s (by omega) w
    have c2 := fun w => globIs_any s (by omega) w
    have hq2 : decide ((s.size : Int) ≤ 120) = !decide (120 < s.size) := by
      by_cases h2 : 120 < s.size
      · rw [decide_eq_true h2, decide_eq_false (by omega)]; rfl
      · rw [decide_eq_false h2, decide_eq_true (by omega)]; rfl
    have hsz : s.size ≤ 130 := by omega
    clear h
    generalize isV s = b1 at *
    generalize decide (120 < s.size) = b2 at *
    cases b1 <;> cases b2
    all_goals
      simp only [Bool.not_true, Bool.not_false, Bool.and_true, Bool.and_false, Bool.true_and, Bool.false_and] at c1 hq2
      have C1 := Lib.hid c1
      have C2 := Lib.hid c2
      clear c1 c2
      go_enter Try.func3, Try.ntmps3
      go_wp2_with (first | ((with_reducible refine (C1.out _).mono ?_); rintro x w1 ⟨rfl, hx1⟩) | ((with_reducible refine (C2.out _).mono ?_); rintro x w2 ⟨rfl, hx2⟩))
      go_ret
      exact ⟨ret_bool (by simp), hx1.trans hx2⟩

set_option maxRecDepth 100000 in
theorem walk : Frame.Walks 3 Try.f3 := by
  intro H enc W base args ds p hval hA _
  rw [Try.params3] at hA hval
  obtain ⟨v0, d0, rfl, rfl, h0⟩ := trodAll_one hA
  obtain ⟨s, rfl, rfl, rfl, hs⟩ := open_string Try.underlying9 (hval 0 9 v0 rfl rfl) h0
  exact law s W

/-! ### The row -/
theorem plain : Frame.Plain Rows.globRightsSpec Try.f3 := by
  refine ⟨rfl, fun H ds h => ?_⟩
  rw [Try.params3] at h
  match ds, h with
  | [_], _ => rfl
theorem read : ∀ t ∈ Try.f3.params.toList, Try.prog.readableRec t = true ∧ t < Try.prog.types.size := by
  rw [Try.params3]
  intro t ht
  simp at ht
  subst ht
  all_goals exact ⟨by kernel_rfl, of_decide_eq_true (by kernel_rfl)⟩
set_option maxRecDepth 100000 in
theorem over : Rows.globRightsRow.holds Try.pinned (OpenSpec.ofChange Rows.globRightsSpec) :=
  OpenClaim.holds_of_wide 3 Try.f3 rfl rfl rfl rfl rfl rfl rfl ⟨rfl, rfl, rfl, rfl, rfl⟩ rfl rfl rfl rfl rfl (by kernel_rfl) Try.func3 (by kernel_rfl)
    (of_decide_eq_true (by kernel_rfl)) (by unfold Func.isWrapper; first | (rw [if_pos (by decide +kernel)]; kernel_rfl) | (rw [if_neg (by decide +kernel)]; exact ⟨rfl, rfl⟩))
    (fun os started H enc _ => Frame.lifted Try.func3 (by kernel_rfl) plain (by kernel_rfl) read walk os started H enc
      (ChangeSpec.witness6 (enc := enc) (C := Try.checked) false ⟨#[], #[.string ⟨#[]⟩], []⟩ 8 (by kernel_rfl) (by kernel_rfl) (by kernel_rfl) (by kernel_rfl)))

theorem globRights_holds : Rows.GlobRightsSaid := over
#print axioms globRights_holds
end Go.Proofs.Ytiiaoagobjgkiaa.globRights
