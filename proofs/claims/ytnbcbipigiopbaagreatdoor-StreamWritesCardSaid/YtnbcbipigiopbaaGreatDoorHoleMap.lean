/-
  The contract of the reference's MapRight.
-/
import Derived.Test.YtnbcbipigiopbaaGreatDoorPkC
namespace Go.Proofs.YtnbcbipigiopbaaGreatDoor
open Go.RowKit Go.WideShapes

set_option maxHeartbeats 4000000 in
set_option maxRecDepth 100000 in
theorem mapRight_any (w : World) (v : Value) (n : Nat) (A S : Nat → Int) (size : Int) (hs : size ≤ 9223372036854775807) (h : IsPieces w v n A S) :
    Calls Tryz.prog 73 #[v, .int .i64 size] w fun e w' => e = .returned (.bool (holeB n A S size)) ∧ Ext w w' := by
  by_cases h0 : size < 0
  · have er : Hid (holeB n A S size = false) := Lib.hid (by unfold holeB; simp; omega)
    rcases h with ⟨⟨a0, c0, rfl⟩, rfl⟩ | ⟨b, off, cap, rfl, hn, hc⟩
    all_goals
      go_enter Tryz.func73, Tryz.ntmps73
      go_wp2_with fail
      go_ret
      exact ⟨ret_bool (by rw [er.out]), (by show Below _ _ _; repeat' (first | (with_reducible exact Below.refl _ _) | (with_reducible assumption) | (with_reducible refine belowDrewN ?_ _) | (with_reducible refine Below.alloc ?_ ?_ _) | (with_reducible refine Below.drew ?_) | (with_reducible refine Below.setCell ?_ ?_ _) | go_size))⟩
  · have h0' : 0 ≤ size := by omega
    by_cases h20 : 20 < n
    · have er : Hid (holeB n A S size = false) := Lib.hid (by unfold holeB; simp; omega)
      rcases h with ⟨⟨a0, c0, rfl⟩, rfl⟩ | ⟨b, off, cap, rfl, hn, hc⟩
      · omega
      · go_enter Tryz.func73, Tryz.ntmps73
        go_wp2_with fail
        go_ret
        exact ⟨ret_bool (by rw [er.out]), (by show Below _ _ _; repeat' (first | (with_reducible exact Below.refl _ _) | (with_reducible assumption) | (with_reducible refine belowDrewN ?_ _) | (with_reducible refine Below.alloc ?_ ?_ _) | (with_reducible refine Below.drew ?_) | (with_reducible refine Below.setCell ?_ ?_ _) | go_size))⟩
    · have h20' : n ≤ 20 := by omega
      rcases h with ⟨⟨a0, c0, rfl⟩, rfl⟩ | ⟨b, off, cap, rfl, hn, hc⟩
      · have er : Hid (holeB 0 A S size = true) := Lib.hid (holeB_all h0' (by omega) fun j hj => by omega)
        go_enter Tryz.func73, Tryz.ntmps73
        go_wp2_with fail
        refine wp_loop_rounds 1 ?_
        rw [rounds_succ]
        go_wp2_with fail
        go_ret
        exact ⟨ret_bool (by rw [er.out]), (by show Below _ _ _; repeat' (first | (with_reducible exact Below.refl _ _) | (with_reducible assumption) | (with_reducible refine belowDrewN ?_ _) | (with_reducible refine Below.alloc ?_ ?_ _) | (with_reducible refine Below.drew ?_) | (with_reducible refine Below.setCell ?_ ?_ _) | go_size))⟩
      · go_enter Tryz.func73, Tryz.ntmps73
        go_wp2_with fail
        go_loopw [16] (fun i wr => ∃ k : Nat, k ≤ n ∧ i = .int .i64 (k : Int) ∧ (∀ j, j < k → pieceB A S size j = true) ∧ Ext w wr) (fun i _ => n - (intOf i).toNat)
        case atStart => exact ⟨0, by omega, rfl, fun j hj => by omega, Ext.refl _⟩
        case round =>
          obtain ⟨k, hk, rfl, hall, hE⟩ := hrel
          have Hall := Lib.hid hall
          clear hall
          by_cases hlt : k < n
          · have g1 := hE.cell (hc k hlt).1
            have g2 := hE.cell (hc k hlt).2
            have Hc := Lib.hid hc
            clear hc
            rcases (show (decide (A k < 0) = true) ∨ (decide (A k < 0) = false ∧ decide (S k < 1) = true) ∨ (decide (A k < 0) = false ∧ decide (S k < 1) = false ∧ decide (size < S k) = true) ∨
                (0 ≤ size - S k ∧ 1 ≤ S k ∧ decide (A k < 0) = false ∧ decide (S k < 1) = false ∧ decide (size < S k) = false ∧ decide (size - S k < A k) = true) ∨
                (1 ≤ S k ∧ 0 ≤ A k ∧ S k ≤ size ∧ A k ≤ size - S k) from by simp; omega) with q1 | ⟨q1, q2⟩ | ⟨q1, q2, q3⟩ | ⟨q0, p0, q1, q2, q3, q4⟩ | ⟨c1, c2, c3, c4⟩
            case inr.inr.inr.inr =>
              cases k with
              | zero =>
                have g1 : wr.cell? ⟨b, off, none⟩ = some (.int .i64 (A 0)) := by simpa using g1
                have g2 : wr.cell? ⟨b, off + 1, none⟩ = some (.int .i64 (S 0)) := by simpa using g2
                have hp : pieceB A S size 0 = true := by simp [pieceB, c1, c2, c3, c4]
                have Hp := Lib.hid hp
                have q1 : decide (S 0 < 1) = false := by simpa using c1
                have q2 : decide (A 0 < 0) = false := by simpa using c2
                have q3 : decide (size < S 0) = false := by simpa using c3
                have q4 : decide (size - S 0 < A 0) = false := by simpa using c4
                clear hp
                go_wp2_with fail
                refine wp_region_det (Stood _) (by kernel_rfl) (by kernel_rfl) (Stood.start _) ?_
                repeat (first
                  | (refine det_skip (by rfl) ?_; simp only [Act.put, List.setIfInBounds_toArray, List.set_cons_zero, List.set_cons_succ])
                  | (refine det_op (v := ?_) rfl (by rfl) (fun w' hS => ?_) ?_; rotate_left; (focus (obtain ⟨hcl, hxt⟩ := hS; go_wp2_with (fail); (first | refine ⟨?_, rfl, hcl, hxt⟩ | refine ⟨?_, rfl, Stood.of (hxt.trans (by assumption))⟩); (first | (simp only [List.getElem?_toArray, List.getElem?_cons_succ, List.getElem?_cons_zero]; rfl) | rfl))); simp only [Act.put, List.setIfInBounds_toArray, List.set_cons_zero, List.set_cons_succ]))
                refine det_end ?_
                intro w2 hS
                have hx := hS.2
                clear hS
                go_wp2_with fail
                go_roundw
                case rel => exact ⟨1, by omega, by go_num, fun j hj => (by rw [show j = 0 from by omega]; exact Hp.out), hE.trans (Ext.trans (by show Below _ _ _; repeat' (first | (with_reducible exact Below.refl _ _) | (with_reducible assumption) | (with_reducible refine belowDrewN ?_ _) | (with_reducible refine Below.alloc ?_ ?_ _) | (with_reducible refine Below.drew ?_) | (with_reducible refine Below.setCell ?_ ?_ _) | go_size)) hx)⟩
                case measure => simp [intOf]; omega
              | succ m =>
                have g3 := hE.cell (Hc.out m (by omega)).1
                have g4 := hE.cell (Hc.out m (by omega)).2
                obtain ⟨d1, d2, d3, d4⟩ := piece_split (Hall.out m (by omega))
                have e1 : ((m + 1 : Nat) : Int) - 1 = m := by omega
                have lb : b < wr.heap.size := World.block_lt_of_cell? wr _ g3
                have lb1 : b < wr.heap.size + 1 := by omega
                have q1 : decide (S (m + 1) < 1) = false := by simpa using c1
                have q2 : decide (A (m + 1) < 0) = false := by simpa using c2
                have q3 : decide (size < S (m + 1)) = false := by simpa using c3
                have q4 : decide (size - S (m + 1) < A (m + 1)) = false := by simpa using c4
                by_cases hb : A (m + 1) ≤ A m + S m
                · have hp : pieceB A S size (m + 1) = false := by simp [pieceB]; omega
                  have er := Lib.hid (holeB_bad hlt hp)
                  clear hp
                  go_wp2_with fail
                  refine wp_region_det (Stood _) (by kernel_rfl) (by kernel_rfl) (Stood.start _) ?_
                  repeat (first
                    | (refine det_skip (by rfl) ?_; simp only [Act.put, List.setIfInBounds_toArray, List.set_cons_zero, List.set_cons_succ])
                    | (refine det_op (v := ?_) rfl (by rfl) (fun w' hS => ?_) ?_; rotate_left; (focus (obtain ⟨hcl, hxt⟩ := hS; go_wp2_with (fail); (first | refine ⟨?_, rfl, hcl, hxt⟩ | refine ⟨?_, rfl, Stood.of (hxt.trans (by assumption))⟩); (first | (simp only [List.getElem?_toArray, List.getElem?_cons_succ, List.getElem?_cons_zero]; rfl) | rfl))); simp only [Act.put, List.setIfInBounds_toArray, List.set_cons_zero, List.set_cons_succ]))
                  refine det_end ?_
                  intro w2 hS
                  have hx := hS.2
                  clear hS
                  go_wp2_with fail
                  go_ret
                  exact ⟨ret_bool (by rw [er.out]), hE.trans (Ext.trans (by show Below _ _ _; repeat' (first | (with_reducible exact Below.refl _ _) | (with_reducible assumption) | (with_reducible refine belowDrewN ?_ _) | (with_reducible refine Below.alloc ?_ ?_ _) | (with_reducible refine Below.drew ?_) | (with_reducible refine Below.setCell ?_ ?_ _) | go_size)) hx)⟩
                · have hp : pieceB A S size (m + 1) = true := by simp [pieceB, c1, c2, c3, c4]; omega
                  have Hp := Lib.hid hp
                  have hb' : A m + S m < A (m + 1) := by omega
                  clear hp hb
                  go_wp2_with fail
                  refine wp_region_det (Stood _) (by kernel_rfl) (by kernel_rfl) (Stood.start _) ?_
                  repeat (first
                    | (refine det_skip (by rfl) ?_; simp only [Act.put, List.setIfInBounds_toArray, List.set_cons_zero, List.set_cons_succ])
                    | (refine det_op (v := ?_) rfl (by rfl) (fun w' hS => ?_) ?_; rotate_left; (focus (obtain ⟨hcl, hxt⟩ := hS; go_wp2_with (fail); (first | refine ⟨?_, rfl, hcl, hxt⟩ | refine ⟨?_, rfl, Stood.of (hxt.trans (by assumption))⟩); (first | (simp only [List.getElem?_toArray, List.getElem?_cons_succ, List.getElem?_cons_zero]; rfl) | rfl))); simp only [Act.put, List.setIfInBounds_toArray, List.set_cons_zero, List.set_cons_succ]))
                  refine det_end ?_
                  intro w2 hS
                  have hx := hS.2
                  clear hS
                  go_wp2_with fail
                  go_roundw
                  case rel => exact ⟨m + 2, by omega, by go_num, allBelow_succ Hall.out Hp.out, hE.trans (Ext.trans (by show Below _ _ _; repeat' (first | (with_reducible exact Below.refl _ _) | (with_reducible assumption) | (with_reducible refine belowDrewN ?_ _) | (with_reducible refine Below.alloc ?_ ?_ _) | (with_reducible refine Below.drew ?_) | (with_reducible refine Below.setCell ?_ ?_ _) | go_size)) hx)⟩
                  case measure => simp [intOf]; omega
            all_goals
              have hp : pieceB A S size k = false := by simp at *; simp [pieceB]; omega
              have er := Lib.hid (holeB_bad hlt hp)
              clear hp
              go_wp2_with fail
              refine wp_region_det (Stood _) (by kernel_rfl) (by kernel_rfl) (Stood.start _) ?_
              repeat (first
                | (refine det_skip (by rfl) ?_; simp only [Act.put, List.setIfInBounds_toArray, List.set_cons_zero, List.set_cons_succ])
                | (refine det_op (v := ?_) rfl (by rfl) (fun w' hS => ?_) ?_; rotate_left; (focus (obtain ⟨hcl, hxt⟩ := hS; go_wp2_with (fail); (first | refine ⟨?_, rfl, hcl, hxt⟩ | refine ⟨?_, rfl, Stood.of (hxt.trans (by assumption))⟩); (first | (simp only [List.getElem?_toArray, List.getElem?_cons_succ, List.getElem?_cons_zero]; rfl) | rfl))); simp only [Act.put, List.setIfInBounds_toArray, List.set_cons_zero, List.set_cons_succ]))
              refine det_end ?_
              intro w2 hS
              have hx := hS.2
              clear hS
              go_wp2_with fail
              go_ret
              exact ⟨ret_bool (by rw [er.out]), hE.trans (Ext.trans (by show Below _ _ _; repeat' (first | (with_reducible exact Below.refl _ _) | (with_reducible assumption) | (with_reducible refine belowDrewN ?_ _) | (with_reducible refine Below.alloc ?_ ?_ _) | (with_reducible refine Below.drew ?_) | (with_reducible refine Below.setCell ?_ ?_ _) | go_size)) hx)⟩
          · obtain rfl : k = n := by omega
            have er := Lib.hid (holeB_all h0' h20' Hall.out)
            go_wp2_with fail
            go_ret
            exact ⟨ret_bool (by rw [er.out]), hE⟩
end Go.Proofs.YtnbcbipigiopbaaGreatDoor
