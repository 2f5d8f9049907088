/-
  The contract of the reference's MapTake.
-/
import Derived.Test.YtioceakpmnhohaaDoorTake
import Derived.Test.YtioceakpmnhohaaDoorHoleMap
namespace Go.Proofs.YtioceakpmnhohaaDoor
open Go.RowKit Go.WideShapes

theorem extract_two (s : ByteArray) {a b : Int} (h0 : 0 ≤ a) (h1 : 0 ≤ b) (h2 : a + b ≤ s.size) : (s.extract a.toNat s.size).extract 0 b.toNat = s.extract a.toNat (a + b).toNat := by
  rw [ByteArray.extract_extract]
  congr 1
  omega

set_option maxHeartbeats 1600000 in
set_option maxRecDepth 100000 in
theorem mapTake_any (w : World) (s : ByteArray) (v : Value) (n : Nat) (A S : Nat → Int) (hs : s.size ≤ 600) (h : IsPieces w v n A S) :
    Calls Tryd.prog 14 #[.string s, v] w fun e w' => e = .returned (.tuple #[.string (takeV s n A S), (.int .i64 (takeE s n A S))]) ∧ Ext w w' := by
  have C1 := Lib.hid (mapRight_any w v n A S s.size (by omega) h)
  by_cases hB : holeB n A S s.size = true
  · have e1 : Hid (takeV s n A S = takeS s A S n) := Lib.hid (by unfold takeV; rw [if_pos hB])
    have e2 : Hid (takeE s n A S = 0) := Lib.hid (by unfold takeE; rw [if_pos hB])
    have hn20 := holeB_len hB
    have hp := Lib.hid (fun k (hk : k < n) => piece_split (holeB_get hB hk))
    rw [hB] at C1
    clear hB
    rcases h with ⟨⟨a0, c0, rfl⟩, rfl⟩ | ⟨b, off, cap, rfl, hn, hc⟩
    · go_enter Tryd.func14, Tryd.ntmps14
      go_wp2_with ((refine (C1.out).mono ?_); rintro e w1 ⟨rfl, hx1⟩)
      refine wp_loop_rounds 1 ?_
      rw [rounds_succ]
      go_wp2_with fail
      go_ret2
      exact ⟨ret_val (by rw [e1.out, e2.out]; rfl), hx1⟩
    · have Hc := Lib.hid hc
      clear hc
      go_enter Tryd.func14, Tryd.ntmps14
      go_wp2_with ((refine (C1.out).mono ?_); rintro e w1 ⟨rfl, hx1⟩)
      go_loopw [6, 16] (fun out i wr => ∃ k : Nat, k ≤ n ∧ out = .string (takeS s A S k) ∧ i = .int .i64 (k : Int) ∧ Ext w wr) (fun _ i _ => (n - intOf i).toNat)
      case atStart => exact ⟨0, Nat.zero_le _, rfl, rfl, hx1⟩
      case round =>
        obtain ⟨k, hk, rfl, rfl, hE⟩ := hrel
        by_cases hlt : k < n
        · have g1 := hE.cell (Hc.out k hlt).1
          have g2 := hE.cell (Hc.out k hlt).2
          obtain ⟨d1, d2, d3, d4⟩ := hp.out k hlt
          have lb : b < wr.heap.size := World.block_lt_of_cell? wr _ g1
          have lb1 : b < wr.heap.size + 1 := by omega
          have z1 : (takeS s A S k).size ≤ 12000 := Nat.le_trans (takeS_size s A S k) (Nat.le_trans (Nat.mul_le_mul (show k ≤ 20 by omega) hs) (by decide))
          have q1 : A k ≤ A k + S k := by omega
          have q2 : A k + S k ≤ s.size := by omega
          have q3 : A k ≤ s.size := by omega
          have hxx : Hid ((s.extract (A k).toNat s.size).extract 0 (S k).toNat = s.extract (A k).toNat (A k + S k).toNat) := Lib.hid (extract_two s (by omega) (by omega) (by omega))
          have q4 : S k ≤ (s.size : Int) - A k := by omega
          have q5 : (s.extract (A k).toNat s.size).size = s.size - (A k).toNat := by simp [ByteArray.size_extract]
          have q6 : (S k).toNat ≤ s.size - (A k).toNat := by omega
          have q7 : S k ≤ ((s.size - (A k).toNat : Nat) : Int) := by omega
          have q8 : 0 ≤ S k := by omega
          go_wp2_with fail
          refine wp_region_det (Stood _) (by kernel_rfl) (by kernel_rfl) (Stood.start _) ?_
          repeat (first
            | (refine det_skip (by rfl) ?_; simp only [Act.put, List.setIfInBounds_toArray, List.set_cons_zero, List.set_cons_succ])
            | (refine det_op (v := ?_) rfl (by rfl) (fun w' hS => ?_) ?_; rotate_left; (focus (obtain ⟨hcl, hxt⟩ := hS; go_wp2_with (fail); (first | refine ⟨?_, rfl, hcl, hxt⟩ | refine ⟨?_, rfl, Stood.of (hxt.trans (by assumption))⟩); rfl)); simp only [Act.put, List.setIfInBounds_toArray, List.set_cons_zero, List.set_cons_succ]))
          refine det_end ?_
          intro w2 hS
          have hx := hS.2
          clear hS
          go_wp2_with fail
          go_roundw
          case rel => exact ⟨k + 1, hlt, by simp only [takeS, hxx.out]; rfl, by go_num, hE.trans (Ext.trans (by show Below _ _ _; repeat' (first | (with_reducible exact Below.refl _ _) | (with_reducible assumption) | (with_reducible refine belowDrewN ?_ _) | (with_reducible refine Below.alloc ?_ ?_ _) | (with_reducible refine Below.drew ?_) | (with_reducible refine Below.setCell ?_ ?_ _) | go_size)) hx)⟩
          case measure => simp [intOf]; omega
        · have hk1 : Hid (k = n) := Lib.hid (by omega)
          go_wp2_with fail
          go_ret2
          exact ⟨ret_val (by rw [e1.out, e2.out, hk1.out]; rfl), hE⟩
  · have hB' : holeB n A S s.size = false := by simpa using hB
    have e1 : Hid (takeV s n A S = ⟨#[]⟩) := Lib.hid (by unfold takeV; rw [if_neg hB])
    have e2 : Hid (takeE s n A S = 1) := Lib.hid (by unfold takeE; rw [if_neg hB])
    rw [hB'] at C1
    clear hB hB' h
    go_enter Tryd.func14, Tryd.ntmps14
    go_wp2_with ((refine (C1.out).mono ?_); rintro e w1 ⟨rfl, hx1⟩)
    go_ret2
    exact ⟨ret_val (by rw [e1.out, e2.out]; rfl), hx1⟩
end Go.Proofs.YtioceakpmnhohaaDoor
