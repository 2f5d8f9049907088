/-
  Contracts of the functions on times: Right of the program; TimeRight of the reference.
-/
import Derived.Test.YtbofobakphlpbaaDoorNum
namespace Go.Proofs.YtbofobakphlpbaaDoor
open Go.RowKit

def timeB (a b : Int) : Bool := decide (-1099511627776 ≤ a) && decide (a ≤ 1099511627776) && decide (0 ≤ b) && decide (b ≤ 999999999)

theorem timeRight_any (a b : Int) (w : World) : Calls Tryd.prog 13 #[.agg #[.int .i64 a, .int .i64 b]] w fun e w' => e = .returned (.bool (timeB a b)) ∧ Ext w w' := by
  have hp : ∀ w, Calls Tryd.prog 23 #[.int .i64 2, .int .i64 40] w fun e w' => e = .returned (.int .i64 1099511627776) ∧ Ext w w' := fun w => power_any 2 40 (by decide) (by decide) (by decide) w
  by_cases h : -1099511627776 ≤ a ∧ a ≤ 1099511627776
  · obtain ⟨h1, h2⟩ := h
    have Hp := Lib.hid hp
    clear hp
    go_enter Tryd.func13, Tryd.ntmps13
    go_wp2_with fail
    refine wp_region_det (Stood _) (by kernel_rfl) (by kernel_rfl) (Stood.start _) ?_
    repeat (first
      | (refine det_skip (by rfl) ?_; simp only [Act.put, List.setIfInBounds_toArray, List.set_cons_zero, List.set_cons_succ])
      | (refine det_op (v := ?_) rfl (by rfl) (fun w' hS => ?_) ?_; rotate_left; (focus (obtain ⟨hcl, hxt⟩ := hS; go_wp2_with (first | ((with_reducible refine (Hp.out _).mono ?_); rintro e w1 ⟨rfl, hx1⟩) | ((with_reducible refine (within_yes h1 h2 _).mono ?_); rintro e w1 ⟨rfl, hx1⟩) | ((with_reducible refine (within_any b 0 999999999 _).mono ?_); rintro e w1 ⟨rfl, hx1⟩)); (first | refine ⟨?_, rfl, hcl, hxt⟩ | refine ⟨?_, rfl, Stood.of (hxt.trans (by assumption))⟩); (first | (simp only [List.getElem?_toArray, List.getElem?_cons_succ, List.getElem?_cons_zero]; rfl) | rfl))); simp only [Act.put, List.setIfInBounds_toArray, List.set_cons_zero, List.set_cons_succ]))
    refine det_end ?_
    intro w1 hS
    have hx := hS.2
    clear hS
    go_wp2_with fail
    go_ret
    exact ⟨ret_bool (by simp [timeB, h1, h2]), Ext.trans (by show Below _ _ _; repeat' (first | (with_reducible exact Below.refl _ _) | (with_reducible assumption) | (with_reducible refine belowDrewN ?_ _) | (with_reducible refine Below.alloc ?_ ?_ _) | (with_reducible refine Below.drew ?_) | (with_reducible refine Below.setCell ?_ ?_ _) | go_size)) hx⟩
  · have h1 : a < -1099511627776 ∨ 1099511627776 < a := by omega
    have H1 := Lib.hid h1
    have Hp := Lib.hid hp
    clear hp h1 h
    go_enter Tryd.func13, Tryd.ntmps13
    go_wp2_with fail
    refine wp_region_det (Stood _) (by kernel_rfl) (by kernel_rfl) (Stood.start _) ?_
    repeat (first
      | (refine det_skip (by rfl) ?_; simp only [Act.put, List.setIfInBounds_toArray, List.set_cons_zero, List.set_cons_succ])
      | (refine det_op (v := ?_) rfl (by rfl) (fun w' hS => ?_) ?_; rotate_left; (focus (obtain ⟨hcl, hxt⟩ := hS; go_wp2_with (first | ((with_reducible refine (Hp.out _).mono ?_); rintro e w1 ⟨rfl, hx1⟩) | ((with_reducible refine (within_no H1.out _).mono ?_); rintro e w1 ⟨rfl, hx1⟩)); (first | refine ⟨?_, rfl, hcl, hxt⟩ | refine ⟨?_, rfl, Stood.of (hxt.trans (by assumption))⟩); (first | (simp only [List.getElem?_toArray, List.getElem?_cons_succ, List.getElem?_cons_zero]; rfl) | rfl))); simp only [Act.put, List.setIfInBounds_toArray, List.set_cons_zero, List.set_cons_succ]))
    refine det_end ?_
    intro w1 hS
    have hx := hS.2
    clear hS
    go_wp2_with fail
    go_ret
    exact ⟨ret_bool (by have := H1.out; simp [timeB]; omega), Ext.trans (by show Below _ _ _; repeat' (first | (with_reducible exact Below.refl _ _) | (with_reducible assumption) | (with_reducible refine belowDrewN ?_ _) | (with_reducible refine Below.alloc ?_ ?_ _) | (with_reducible refine Below.drew ?_) | (with_reducible refine Below.setCell ?_ ?_ _) | go_size)) hx⟩

end Go.Proofs.YtbofobakphlpbaaDoor
