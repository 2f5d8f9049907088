/-
  head.Write's small callees: many, the spots, the reference's magic.
-/
import Derived.Test.YtiiaoagobjgkiaaGreatDoorNum
import Derived.Test.YtiiaoagobjgkiaaGreatDoorShelf
namespace Go.Proofs.YtiiaoagobjgkiaaGreatDoor
open Go.RowKit Go.WideShapes

set_option maxRecDepth 100000 in
theorem many_any (f : Int) (w : World) : Calls Tryz.prog 116 #[.int .i64 f] w fun e w' => e = .returned (.int .i64 (if f = 1 then 5 else 7)) ∧ Ext w w' := by
  by_cases h : f = 1
  · subst h
    go_enter Tryz.func116, Tryz.ntmps116
    go_wp2_with fail
    go_ret
    exact ⟨ret_val (by simp), (by show Below _ _ _; repeat' (first | (with_reducible exact Below.refl _ _) | (with_reducible assumption) | (with_reducible refine belowDrewN ?_ _) | (with_reducible refine Below.alloc ?_ ?_ _) | (with_reducible refine Below.drew ?_) | (with_reducible refine Below.setCell ?_ ?_ _) | go_size))⟩
  · have hq : decide (f = 1) = false := decide_eq_false h
    go_enter Tryz.func116, Tryz.ntmps116
    go_wp2_with fail
    go_ret
    exact ⟨ret_val (by simp), (by show Below _ _ _; repeat' (first | (with_reducible exact Below.refl _ _) | (with_reducible assumption) | (with_reducible refine belowDrewN ?_ _) | (with_reducible refine Below.alloc ?_ ?_ _) | (with_reducible refine Below.drew ?_) | (with_reducible refine Below.setCell ?_ ?_ _) | go_size))⟩

def textSpotsV : Value := .agg #[.int .i64 0, .int .i64 100, .int .i64 157, .int .i64 100, .int .i64 265, .int .i64 32, .int .i64 297, .int .i64 32, .int .i64 345, .int .i64 155]
set_option maxHeartbeats 1600000 in
set_option maxRecDepth 100000 in
theorem textSpots_any (w : World) : Calls Tryz.prog 120 #[] w fun e w' => e = .returned textSpotsV ∧ Ext w w' := by
  go_enter Tryz.func120, Tryz.ntmps120
  go_wp2_with fail
  refine bodyPost_ret (v := textSpotsV) ?_ rfl ⟨rfl, (Ext.refl w).alloc _⟩
  simp [results, Tryz.results120, go_sem, textSpotsV]

def numberSpotsV : Value := .agg #[.int .i64 100, .int .i64 8, .int .i64 108, .int .i64 8, .int .i64 116, .int .i64 8, .int .i64 124, .int .i64 12, .int .i64 136, .int .i64 12, .int .i64 329, .int .i64 8, .int .i64 337, .int .i64 8]
set_option maxHeartbeats 1600000 in
set_option maxRecDepth 100000 in
theorem numberSpots_any (w : World) : Calls Tryz.prog 117 #[] w fun e w' => e = .returned numberSpotsV ∧ Ext w w' := by
  go_enter Tryz.func117, Tryz.ntmps117
  go_wp2_with fail
  refine bodyPost_ret (v := numberSpotsV) ?_ rfl ⟨rfl, (Ext.refl w).alloc _⟩
  simp [results, Tryz.results117, go_sem, numberSpotsV]

/-- The magic of a form: eight bytes. -/
def magicV (f : Int) : ByteArray := if f = 1 then ⟨(List.replicate 8 (0 : UInt8)).toArray⟩ else if f = 3 then ⟨#[117, 115, 116, 97, 114, 32, 32, 0]⟩ else ⟨#[117, 115, 116, 97, 114, 0, 48, 48]⟩
theorem rep8 (w : World) : Calls Tryz.prog 76 #[.string ⟨#[0]⟩, .int .i64 8] w fun e w' => e = .returned (.string ⟨(List.replicate 8 (0 : UInt8)).toArray⟩) ∧ Ext w w' :=
  (Tryz.strings_Repeat ⟨#[0]⟩ 8 w (by omega) (by show 1 * _ ≤ _; omega)).mono fun e w' h => h

set_option maxRecDepth 100000 in
theorem magic_any (f : Int) (h1 : 1 ≤ f) (h4 : f ≤ 4) (w : World) : Calls Tryz.prog 71 #[.int .i64 f] w fun e w' => e = .returned (.string (magicV f)) ∧ Ext w w' := by
  have C1 := Lib.hid (rep8 w)
  obtain ⟨m, hm⟩ : ∃ m, m = magicV f := ⟨_, rfl⟩
  have Hm := Lib.hid hm
  rw [← hm]
  clear hm
  have e : f = 1 ∨ f = 2 ∨ f = 3 ∨ f = 4 := by omega
  generalize hR : (⟨(List.replicate 8 (0 : UInt8)).toArray⟩ : ByteArray) = R at *
  have HR := Lib.hid hR
  clear hR
  rcases e with rfl | rfl | rfl | rfl
  all_goals
    go_enter Tryz.func71, Tryz.ntmps71
    go_wp2_with fail
    refine C1.out.mono ?_; rintro e w1 ⟨rfl, hx1⟩
    go_wp2_with fail
    go_ret
    exact ⟨ret_val (by first | (rw [Hm.out, ← HR.out]; rfl) | (rw [Hm.out]; rfl)), hx1.trans (by show Below _ _ _; repeat' (first | (with_reducible exact Below.refl _ _) | (with_reducible assumption) | (with_reducible refine belowDrewN ?_ _) | (with_reducible refine Below.alloc ?_ ?_ _) | (with_reducible refine Below.drew ?_) | (with_reducible refine Below.setCell ?_ ?_ _) | go_size))⟩
end Go.Proofs.YtiiaoagobjgkiaaGreatDoor
